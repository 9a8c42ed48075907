/- Part. -/
import Derived.Test.YtlgbofpennelhaaGreatJ10
import Derived.Test.YtlgbofpennelhaaGreatJ14
set_option linter.all false
set_option maxHeartbeats 0
namespace Go.Proofs.YtlgbofpennelhaaGreat
open Go Go.Vm Go.Proofs.Tryz
attribute [local irreducible] Brn Ob Grow CallsM inR zI zF Mem.row Mem.cells Mem.setCells Mem.upd Go.Vm.Own zZ zaj zam zO New SrcOk subA NewSl Mem.textAt Mem.mapAt Mem.iterAt zC zB Wr NewEls Elems
set_option maxRecDepth 10000
section
variable {M:Mem}
theorem zGU (a:Option Addr) (n c:Nat):CallsM prog 372 [.slice a n c] M fun v M'=>∃ B,v = .func (.func 424) #[] #[.pointer (some ⟨B,0,none⟩)]∧M B=none∧M'=M.setCells B 37 [.slice a n c]:=by
 refine zsU oS ?_;refine new (fun b hb=>?_);replace hb:M b=none:=hb;refine zR ?_;exact⟨b,rfl,hb,rfl⟩
def zos (xs:List zfJ):Int:=match xs.getLast? with|none=>0|some x=>x.at'+8+x.n
theorem zt9 (pre:List zfJ) (x:zfJ):zos (pre++[x])=x.at'+8+x.n:=by simp[zos]
theorem AtX.split {x:zfJ}:∀ {k:Nat} {xs:List zfJ},AtX k (xs++[x])→AtX k xs∧x.at'=k+zah (xs.map (·.p))∧x.n=x.p.length
 | k,[],⟨h1,h2,_⟩=>⟨trivial,by assumption,h2⟩
 | k,y::r,⟨h3,h4,h5⟩=>by
  obtain⟨h6,h7,h8⟩:=h5.split;exact⟨⟨h3,h4,h6⟩,by rw[h7];simp[zah];omega,h8⟩
theorem AtX.end {xs:List zfJ} (h:AtX 0 xs):zos xs=zah (xs.map (·.p)):=by
 rcases List.eq_nil_or_concat xs with rfl|⟨pre,x,rfl⟩
 ·rfl
 ·rw[List.concat_eq_append] at h ⊢;obtain⟨-, h2,h3⟩:=h.split;rw[zt9,Yv,zp1,h2,h3];simp[zah];omega
@[reducible] def slX (x:zfJ):Value := .slice x.a x.n x.c
theorem zGV (x:zfJ):∀ u∈[slX x],u.oneCell'=true:=fun u hu=>by simp at hu;subst hu;rfl
structure IX (b1 b2:Nat) (pre:List zfJ) (M:Mem):Prop where
 out:∃ a c,M.has b1 22 [.slice a pre.length c]∧Wr M 37 1 a pre.length c (pre.map slX)
 end':M.has b2 3 [.int .i64 (zos pre)]
 zJi:∀ x∈pre,Wr M 5 1 x.a x.n x.c (x.p.map zc)
def BytesW (M:Mem) (cs:List Value) (x:List UInt8):Prop:=∃ a n c,cs=[.slice a n c]∧Wr M 5 1 a n c (x.map zc)
theorem BytesW.le {M M':Mem} {cs:List Value} {x:List UInt8} (h:BytesW M cs x) (hle:M.le M'):BytesW M' cs x:=by
 obtain⟨a,n,c,h1,h2⟩:=h;exact⟨a,n,c,h1,h2.le hle⟩
theorem zGW {a:Option Addr} {n c:Nat} {l:List UInt8} (hs:SrcOk M 1 a n (l.map zc)) (hn:n≤2097152) (hnc:n≤c):CallsM prog 297 [.slice a n c] M fun v M'=>
  ∃ a' n' c',v = .tuple #[.slice a' n' c',.int .i64 (zah (zay l):Nat)]∧NewEls M 37 1 a' n' c' (BytesW M') (zay l) M':=by
 refine zsS oS ?_;refine zM (zGU a n c) ?_;rintro v M1 ⟨B,rfl,hB,hM1⟩;have hle1:M.le M1:=hM1▸Yw hB
 have hB1:M1.has B 37 [.slice a n c]:=hM1▸Yg;refine⟨rfl,?_⟩;refine new (fun b1 hb1=>?_);replace hb1:M1 b1=none:=hb1;refine new (fun b2 hb2=>?_);replace hb2:(M1.setCells b1 22 [.slice none 0 0]) b2=none:=hb2
 have hne:b2≠b1:=fun e=>by
  rw[e] at hb2;have h1:=Yg (M:=M1) (b:=b1) (E:=22) (l:=[.slice none 0 0])
  unfold Mem.has at h1;rw[h1] at hb2;cases hb2
 have hle2:M1.le (M1.setCells b1 22 [.slice none 0 0]):=Yw hb1;have hle3:(M1.setCells b1 22 [.slice none 0 0]).le ((M1.setCells b1 22 [.slice none 0 0]).setCells b2 3 [.int .i64 0]):=Yw hb2
 have h1b1:=Mem.has.le hle3 (Yg (M:=M1) (b:=b1) (E:=22) (l:=[.slice none 0 0]));have h1b2:=Yg (M:=M1.setCells b1 22 [.slice none 0 0]) (b:=b2) (E:=3) (l:=[.int .i64 0])
 have hb21:M1 b2=none:=by
  cases e:M1 b2 with
  | none=>rfl
  | some o=>rw[hle2 _ _ e] at hb2;cases hb2
 obtain⟨M3,hM3⟩:=oI ((M1.setCells b1 22 [.slice none 0 0]).setCells b2 3 [.int .i64 0]);rw[←hM3] at hle3 h1b1 h1b2;obtain⟨M0,hM0⟩:∃ M0:Mem,M0=M3.minus (fun y=>y≠b1∧y≠b2):=⟨_,rfl⟩
 have h01:M0 b1=M3 b1:=by rw[hM0];unfold Mem.minus;rw[if_neg oS]
 have h02:M0 b2=M3 b2:=by rw[hM0];unfold Mem.minus;rw[if_neg oS]
 erw [←hM3];refine rangeV (zGs (A:=M1) (hs.le hle1) hn hnc hB1) (by kernel_rfl) rfl (Yc hle2 hle3) (fun _=>rfl) (IX b1 b2) M0 (hM0▸Yab _ _) (fun b hb=>?_) ⟨⟨none,0,?_,?_⟩,?_,by simp⟩ ?_ ?_
 ·rw[hM0];refine Yaq ⟨fun e=>?_,fun e=>?_⟩
  ·simp_all
  ·simp_all
 ·unfold Mem.has at h1b1 ⊢; rw[h01];exact h1b1
 ·unfold Wr;exact⟨rfl,Yd _,.inl ⟨rfl,rfl⟩⟩
 ·unfold Mem.has at h1b2 ⊢; rw[h02];exact h1b2
 ·rintro pre x Mb Mx Mc ⟨⟨a2,c2,ho1,ho2⟩,he,hrows⟩ hlt ⟨hx1,hx2,hx3,hx4⟩ hfr hle4 hle5;have g1:Mc.has b1 22 [.slice a2 pre.length c2]:=Mem.has.le hle4 ho1
  have g2:Mc.has b2 3 [.int .i64 (zos pre)]:=Mem.has.le hle4 he;have g3:=ho2.le hle4
  have hex:=zt9 pre x;obtain⟨at',xa,xn,xc,xp⟩:=x;dsimp only at hx1 hx2 hx3 hx4 hex;refine zR ?_;refine⟨rfl,?_⟩;refine zW g1 ?_;refine ziQ (Mc.minus (blk a2)) _ (Wr.newSl g3) oM (by simp[maxLen];omega) (zGV ⟨at',xa,xn,xc,xp⟩) fun a4 c4 M4 hN4 hk4=>?_
  have hb1n:¬blk a2 b1:=fun ⟨q,hq,e⟩=>by
   obtain⟨cs,hh⟩:=g3.block hq;rw[e] at hh;exact absurd (hh.inj g1).1 oD
  have hb2n:¬blk a2 b2:=fun ⟨q,hq,e⟩=>by
   obtain⟨cs,hh⟩:=g3.block hq;rw[e] at hh;exact absurd (hh.inj g2).1 oD
  have k1:M4.has b1 22 [.slice a2 pre.length c2]:=hk4 _ _ hb1n g1;have k2:M4.has b2 3 [.int .i64 (zos pre)]:=hk4 _ _ hb2n g2
  have k3:=hN4.wr
  have hb4:∀ q,a4=some q→q.block≠b1∧q.block≠b2:=fun q hq=>by
   obtain⟨cs,hh⟩:=k3.block hq;refine⟨fun e=>?_,fun e=>?_⟩
   ·rw[e] at hh;exact absurd (hh.inj k1).1 oD
   ·rw[e] at hh;exact absurd (hh.inj k2).1 oD
  have krows:∀ y∈pre++[⟨at',xa,xn,xc,xp⟩],Wr M4 5 1 y.a y.n y.c (y.p.map zc):=fun y hy=>by
   have hy1:Wr Mc 5 1 y.a y.n y.c (y.p.map zc):=by
    rcases Yy.1 hy with hy|hy
    ·exact(hrows y hy).le hle4
    ·simp at hy;subst hy;exact hx3.le hle5
   refine hy1.mono fun q o hq ho=>hk4 _ _ (fun ⟨q2,hq2,e2⟩=>?_) ho
   obtain⟨cs,hh⟩:=g3.block hq2;obtain⟨cs2,hh2⟩:=hy1.block hq;rw[e2] at hh;exact absurd (hh.inj hh2).1 oD
  refine zR ?_;refine on k1.cells ?_;refine ob oS ?_
  have hk5:Mem.keep (fun y=>y=b1) M4 (M4.setCells b1 22 [.slice a4 (pre.length+1) c4]):=fun y o hy ho=>by
   unfold Mem.setCells;rw[Yh _ _ hy];exact ho
  have m1:(M4.setCells b1 22 [.slice a4 (pre.length+1) c4]).has b1 22 [.slice a4 (pre.length+1) c4]:=Yg;obtain⟨M5,hM5⟩:=oI (M4.setCells b1 22 [.slice a4 (pre.length+1) c4]);rw[←hM5] at hk5 m1;have m2:M5.has b2 3 [.int .i64 (zos pre)]:=hk5 _ _ hne k2
  erw [←hM5];refine obr (inR_i64 (by grind)) ?_;refine obr (inR_i64 (by grind)) ?_;refine on m2.cells ?_;refine ob oS ?_
  have hk6:Mem.keep (fun y=>y=b2) M5 (M5.setCells b2 3 [.int .i64 (at'+8+xn)]):=fun y o hy ho=>by
   unfold Mem.setCells;rw[Yh _ _ hy];exact ho
  have p2:(M5.setCells b2 3 [.int .i64 (at'+8+xn)]).has b2 3 [.int .i64 (at'+8+xn)]:=Yg;obtain⟨M6,hM6⟩:=oI (M5.setCells b2 3 [.int .i64 (at'+8+xn)]);rw[←hM6] at hk6 p2;refine⟨rfl,M6,⟨⟨a4,c4,?_,?_⟩,?_,fun y hy=>?_⟩,hM6▸Ya _⟩
  ·rw[Yi];exact hk6 _ _ (Ne.symm hne) m1
  ·rw[Yi,Yv];refine k3.mono fun q o hq ho=>hk6 _ _ (hb4 q hq).2 (hk5 _ _ (hb4 q hq).1 ho)
  ·simp_all
  ·have hy1:=krows y hy;refine hy1.mono fun q o hq ho=>?_
   obtain⟨cs2,hh2⟩:=hy1.block hq;refine hk6 _ _ (fun e=>?_) (hk5 _ _ (fun e=>?_) ho)
   ·rw[e] at hh2;exact absurd (hh2.inj k2).1 oD
   ·rw[e] at hh2;exact absurd (hh2.inj k1).1 oD
 ·rintro xs Mb Mc ⟨hD1,hD2⟩ ⟨⟨a2,c2,ho1,ho2⟩,he,hrows⟩ hdj hle4 hle5;have g1:Mc.has b1 22 [.slice a2 xs.length c2]:=Mem.has.le hle4 ho1
  have g2:Mc.has b2 3 [.int .i64 (zos xs)]:=Mem.has.le hle4 he;refine zK g1 ?_;refine zW g2 ?_;refine⟨a2,xs.length,c2,?_,?_⟩
  ·rw[hD2.end,hD1]
  ·have hlen:(zay l).length=xs.length:=by rw[←hD1];simp
   unfold NewEls;refine⟨xs.map fun x=>[slX x],?_,by simp,hlen,by simp,fun i cs p hi hp=>?_⟩
   ·have e:(xs.map fun x=>[slX x]).flatten=xs.map slX:=by
     clear g1 g2 ho1 ho2 he hrows hlen hD1 hD2
     induction xs with
     | nil=>rfl
     | cons y r ih=>simp[ih]
    rw[e];refine newSl_iff.2 ⟨Yc hle1 hle5,?_⟩;unfold Wr at ho2;obtain⟨w1,w2,w3⟩:=ho2;refine⟨w1,w2,w3.imp id fun ⟨b,cs,ha,hh,hr⟩=>⟨b,cs,ha,?_,hh.le hle4,hr⟩⟩;cases e:M b with
    | none=>rfl
    | some o=>
     have:=hdj b (by rw[hle1 _ _ e];simp);unfold Mem.has at hh;rw[hh] at this;cases this
   ·rw[Ya7] at hi;cases hx:xs[i]? with
    | none=>simp_all
    | some x=>
     rw[hx] at hi;simp at hi;subst hi;rw[←hD1,Ya7,hx] at hp;simp at hp;subst hp;have hw:=(hrows x (Yao hx)).le hle4
     exact⟨x.a,x.n,x.c,rfl,hw⟩
end
section
variable {M:Mem}
def kk (k:Int):Nat→Int
 | 0=>k
 | j+1=>(kk k j).tdiv 10
def dgI (k:Int) (j:Nat):Int:=IntKind.u8.wrap (48+(kk k j).tmod 10)
def dgB (k:Int) (j:Nat):UInt8:=UInt8.ofNat (48+(kk k j).tmod 10).toNat
theorem zgd {k:Int} (h:0≤k):∀ j,0≤kk k j
 | 0=>h
 | j+1=>by rw[kk];exact Int.tdiv_nonneg (zgd h j) oD
theorem zFX {k:Int} (h:0≤k) (h2:k≤99999):∀ j,kk k j≤99999
 | 0=>h2
 | j+1=>by
  have h1:=zgd h j;have h3:=zFX h h2 j
  rw[kk,Ya1 h1];omega
theorem zJG {k:Int} (h:0≤k) (j:Nat):Value.int .u8 (dgI k j)=zc (dgB k j):=by
 have h1:=zgd h j;have h2:(kk k j).tmod 10=kk k j % 10:=Yb6 h1
 have e:dgI k j=(48+(kk k j).tmod 10) % 256:=by simp[dgI,IntKind.wrap,IntKind.signed,IntKind.bits]
 rw[e];simp only[zc,dgB];congr 1;rw[h2];simp;omega
def zb (k:Int):ByteArray:=if k<1∨99999<k then ByteArray.empty else ⟨#[119,dgB k 4,dgB k 3,dgB k 2,dgB k 1,dgB k 0]⟩
def zr9 (k:Int) (i j:Nat):Value:=if j<i then .int .u8 (dgI k j) else .int .u8 0
theorem zec (k:Int):CallsM prog 208 [.int .i64 k] M fun v M'=>v = .string (zb k)∧M.le M':=by
 refine zxG oS ?_;have hempty:(k<1∨99999<k)→zb k=ByteArray.empty:=fun h=>by unfold zb;rw[if_pos h]
 refine zR ?_;refine brn (fun g=>?_) (fun g=>?_)
 ·refine zR ?_;exact⟨by simp_all,Ya _⟩
 have g1:¬k<1:=Zd1 g;refine zR ?_;refine brn (fun g=>?_) (fun g=>?_)
 ·refine zR ?_;exact⟨by simp_all,Ya _⟩
 have g2:¬99999<k:=Zd1 g;have hnn:0≤k:=by omega
 refine zR ?_;refine zak (σ:=Nat) [11,0] (fun i=>[(11,.int .i64 i),(0,.int .i64 (kk k i))]) (fun i=>[.live 409 [.v (zr9 k i 4),.v (zr9 k i 3),.v (zr9 k i 2),.v (zr9 k i 1),.v (zr9 k i 0)]]) (fun _=>M) (fun i=>i≤5) (fun i=>5 - i) 0 oM zS ?_;intro i hi;have hkn:=zgd hnn i
 refine brn (fun g=>?_) (fun g=>?_)
 ·have hlt:i<5:=by have:=Zd0 g;omega
  have hk9:kk k i≤99999:=zFX hnn oM i;have hm:0≤(kk k i).tmod 10∧(kk k i).tmod 10<10:=by rw[Yb6 hkn];omega
  have hd:0≤(kk k i).tdiv 10∧(kk k i).tdiv 10≤99999:=by rw[Ya1 hkn];omega
  match i,hlt,hkn,hk9,hm,hd with
  | 0,_,hkn,hk9,hm,hd=>
   repeat' (first|refine obr (inR_i64 oM) ?_|refine ob oD ?_|refine obr oD ?_|refine ob oM ?_|refine obr oM ?_|fail)
   exact⟨0+1,by omega,by omega,zS⟩
  | 1,_,hkn,hk9,hm,hd=>
   repeat' (first|refine obr (inR_i64 oM) ?_|refine ob oD ?_|refine obr oD ?_|refine ob oM ?_|refine obr oM ?_|fail)
   exact⟨1+1,by omega,by omega,zS⟩
  | 2,_,hkn,hk9,hm,hd=>
   repeat' (first|refine obr (inR_i64 oM) ?_|refine ob oD ?_|refine obr oD ?_|refine ob oM ?_|refine obr oM ?_|fail)
   exact⟨2+1,by omega,by omega,zS⟩
  | 3,_,hkn,hk9,hm,hd=>
   repeat' (first|refine obr (inR_i64 oM) ?_|refine ob oD ?_|refine obr oD ?_|refine ob oM ?_|refine obr oM ?_|fail)
   exact⟨3+1,by omega,by omega,zS⟩
  | 4,_,hkn,hk9,hm,hd=>
   repeat' (first|refine obr (inR_i64 oM) ?_|refine ob oD ?_|refine obr oD ?_|refine ob oM ?_|refine obr oM ?_|fail)
   exact⟨4+1,by omega,by omega,zS⟩
 ·have hi5:i=5:=by have:=Zd1 g;omega
  subst hi5;refine zR ?_;refine new (fun b1 hb1=>?_);replace hb1:M b1=none:=hb1;obtain⟨M2,hM2⟩:=oI (M.setCells b1 409 [.int .u8 (dgI k 4),.int .u8 (dgI k 3),.int .u8 (dgI k 2),.int .u8 (dgI k 1),.int .u8 (dgI k 0)])
  have hN:NewSl M 409 1 (some ⟨b1,0,none⟩) 5 5 ([dgB k 4,dgB k 3,dgB k 2,dgB k 1,dgB k 0].map zc) M2:=by
   rw[hM2];simp only[zJG hnn];exact Ybc hb1 409 1 5 _ rfl
  erw [←hM2];refine zR ?_;refine zsD hN.src ?_;refine ob (by show 1+5≤_;decide) ?_;refine zR ?_;refine⟨?_,hN.le⟩;unfold zb;rw[if_neg oM];rfl
def pw:Nat→Int
 | 0=>10000
 | j+1=>(pw j).tdiv 10
end
section
variable {M:Mem}
def zdl (k:Int):Nat→Int
 | 0=>0
 | j+1=>10*zdl k j+IntKind.i64.wrap (((dgB k (4 - j)).toNat:Int) - 48)
@[reducible] def zge (k:Int):ByteArray:=⟨#[dgB k 4,dgB k 3,dgB k 2,dgB k 1,dgB k 0]⟩
@[reducible] def zkG (k:Int):ByteArray:=⟨#[119,dgB k 4,dgB k 3,dgB k 2,dgB k 1,dgB k 0]⟩
theorem zg1 {k:Int} (h:¬(k<1∨99999<k)):zb k=zkG k:=by unfold zb;rw[if_neg h]
theorem zyT {n:Int} (h : -2147483648≤n∧n≤2147483647):inR .i32 n:=by
 simp[inR,IntKind.wrap,IntKind.signed,IntKind.bits];omega
theorem zcr {k:Int} (h:0≤k) (j:Nat):((dgB k j).toNat:Int)=48+kk k j % 10:=by
 have h1:=zgd h j;have h2:(kk k j).tmod 10=kk k j % 10:=Yb6 h1
 unfold dgB;rw[h2];simp;omega
theorem zmH {n:Int} (h:0≤n∧n≤100):IntKind.i64.wrap n=n:=by
 simp[IntKind.wrap,IntKind.signed,IntKind.bits];omega
theorem ziF {k:Int} (h:0≤k) (j:Nat):zdl k (j+1)=10*zdl k j+kk k (4 - j) % 10:=by
 rw[zdl,zcr h,zmH oM];omega
theorem zmI {k:Int} (h:0≤k) (h2:k≤99999):zdl k 1=k / 10000∧zdl k 2=k / 1000∧zdl k 3=k / 100∧zdl k 4=k / 10∧zdl k 5=k:=by
 have a0:kk k 0=k:=rfl;have a1:kk k 1=k / 10:=by show (kk k 0).tdiv 10=_;rw[Ya1 (zgd h 0)];rfl
 have a2:kk k 2=k / 100:=by show (kk k 1).tdiv 10=_;rw[Ya1 (zgd h 1),a1];omega
 have a3:kk k 3=k / 1000:=by show (kk k 2).tdiv 10=_;rw[Ya1 (zgd h 2),a2];omega
 have a4:kk k 4=k / 10000:=by show (kk k 3).tdiv 10=_;rw[Ya1 (zgd h 3),a3];omega
 have b1:zdl k 1=10*zdl k 0+kk k 4 % 10:=ziF h 0;have b2:zdl k 2=10*zdl k 1+kk k 3 % 10:=ziF h 1
 have b3:zdl k 3=10*zdl k 2+kk k 2 % 10:=ziF h 2;have b4:zdl k 4=10*zdl k 3+kk k 1 % 10:=ziF h 3
 have b5:zdl k 5=10*zdl k 4+kk k 0 % 10:=ziF h 4;have b0:zdl k 0=0:=rfl
 omega
theorem zAy (k:Int):(zkG k).toList.getD 0 0=119:=by simp
def zhE (s:ByteArray):Prop:=s.size≠6∨((s.toList.getD 0 0).toNat:Int)≠119
theorem zxY {s:ByteArray} (h:zhE s):CallsM prog 371 [.string s] M fun v M'=>v = .int .i64 0∧M=M':=by
 refine zne oS ?_;refine brn (fun e=>?_) (fun e=>?_)
 ·refine zR ?_;exact⟨rfl,rfl⟩
 ·have e1:s.size=6:=by have:(s.size:Int)=6:=by simpa using e
                       omega
  refine ob (by omega) ?_;refine brn_t (by rcases h with h|h<;>simp_all) ?_;refine zR ?_;exact⟨rfl,rfl⟩
theorem zCv (k:Int) (h:¬(k<1∨99999<k)):CallsM prog 371 [.string (zb k)] M fun v M'=>v = .int .i64 k∧M.le M':=by
 refine zne oS ?_;rw[zg1 h];refine zR ?_;refine ob (by show (0:Int)≤0∧(0:Int)<((6:Nat):Int);decide) ?_;refine zR ?_;refine brn_f (by simp) ?_;refine zR ?_;refine ob (by show (0:Int)≤1∧(1:Int)≤((6:Nat):Int)∧((6:Nat):Int)≤((6:Nat):Int);decide) ?_;refine zR ?_;refine new (fun b1 hb1=>?_);replace hb1:M b1=none:=hb1;have hnn:0≤k:=by omega
 have hdlt:∀ j,(dgB k j).toNat<128:=fun j=>by have:=zcr hnn j;omega
 have htl:(zkG k).extract (1:Int).toNat (((zkG k).size:Nat):Int).toNat=zge k:=rfl;refine zak (σ:=Nat) [3] (fun i=>[(3,.int .i64 (zdl k i))]) (fun _=>[]) (fun i=>M.upd b1 (.stringIter (zge k) i)) (fun i=>i≤5) (fun i=>5 - i) 0 oM zS ?_;intro i hi;have hsit:(M.upd b1 (.stringIter (zge k) i)).sitAt b1=some (zge k,i):=by simp[Mem.sitAt,Mem.upd]
 refine on hsit ?_;refine⟨fun hlt=>⟨?_,?_⟩,fun hno=>?_⟩
 ·have hi5:i<5:=hlt
  match i,hi5 with
  | 0,_=>exact hdlt 4
  | 1,_=>exact hdlt 3
  | 2,_=>exact hdlt 2
  | 3,_=>exact hdlt 1
  | 4,_=>exact hdlt 0
 ·have hi5:i<5:=hlt;have hb:48≤((dgB k (4 - i)).toNat:Int)∧((dgB k (4 - i)).toNat:Int)≤57:=by have:=zcr hnn (4 - i);omega
  have ha:0≤zdl k i∧zdl k i≤99999:=by
   obtain⟨c1,c2,c3,c4,c5⟩:=zmI hnn oM
   match i,hi5 with
   | 0,_=>show (0:Int)≤0∧(0:Int)≤99999;omega
   | 1,_=>omega
   | 2,_=>omega
   | 3,_=>omega
   | 4,_=>omega
  have hget:((zge k).get! i)=dgB k (4 - i):=by
   match i,hi5 with
   | 0,_=>rfl
   | 1,_=>rfl
   | 2,_=>rfl
   | 3,_=>rfl
   | 4,_=>rfl
  rw[hget];refine brn_t rfl ?_;refine obr (inR_i64 oM) ?_;refine obr (zyT oM) ?_;refine obr (inR_i64 ?_) ?_
  ·rw[zmH oM];omega
  refine⟨i+1,by omega,by omega,?_⟩;refine⟨(by repeat' first|exact True.intro|refine⟨rfl,?_⟩),(by repeat' first|exact True.intro|refine⟨rfl,?_⟩),?_,rfl⟩;dsimp only;rw[Mem.upd_upd];exact Ya _
 ·have hi5:i=5:=by have:¬i<5:=hno;omega
  subst hi5;obtain⟨-, -, -, -, c5⟩:=zmI hnn oM;refine brn_f rfl ?_;refine zR ?_;rw[c5];refine(zec k).mono ?_;rintro v M3 ⟨rfl,hle3⟩;rw[zg1 h];refine brn_f oS ?_;refine zR ?_;exact⟨rfl,Yc (Ya8 hb1) hle3⟩
end
section
variable {M:Mem} {p b:Nat} {D:zf} {es:FsT}
theorem DAt.setFile (h:DAt M p b D es) {k:ByteArray} {x x':FX} (hx:ze es k=some x) (hf:x'.f=x.f) (hrow:Wr M 5 1 x'.a x'.p.length x'.c (x'.p.map zc)) (hb:∀ y,blk x'.a y→blk x.a y) {M':Mem}
  (hM:M'=M.setCells x.f 120 [.slice x'.a x'.p.length x'.c,.int .i64 x'.safe]) :
  DAt M' p b D (zt es k x')∧Mem.keep (fun y=>y=x.f) M M'∧∀ y,zav p b (zt es k x') y→zav p b es y:=by
 have hxe:FXAt M x:=h.ents _ (zG hx)
 have hk:Mem.keep (fun y=>y=x.f) M M':=fun y o hy ho=>by
  rw[hM];unfold Mem.setCells;rw[Yh _ _ hy];exact ho
 have hown:∀ y,x'.own y→x.own y:=fun y hy=>by
  rcases hy with rfl|hy
  ·exact .inl hf
  ·exact .inr (hb y hy)
 have hE:FXAt M' x':=by
  refine⟨?_,hrow.mono fun q o hq ho=>hk _ _ (fun e=>?_) ho⟩
  ·rw[hf,hM];exact Yg
  ·obtain⟨q',hq',e'⟩:=hb _ ⟨q,hq,rfl⟩;obtain⟨cs,hh⟩:=hxe.row.block hq';rw[e',e] at hh;exact absurd (hh.inj hxe.self).1 oD
 refine⟨h.turn hx (fun y o hy ho=>hk _ _ (fun e=>hy (.inl e)) ho) hE hf fun y hy => .inl (hown y hy),hk,fun y hy=>?_⟩;rcases zmk hy h.map.nodup with h1|h1
 ·exact h1
 ·exact .inr (.inr ⟨_,zG hx,hown y h1⟩)
theorem Wr.subA0 {E:TypeId} {s:Nat} {a:Option Addr} {n c:Nat} {L:List Value} (h:Wr M E s a n c L):subA a 0 c s=a:=by
 unfold Wr at h;obtain⟨-, -, ⟨rfl,rfl⟩|⟨bb,cs,rfl, -⟩⟩:=h
 ·simp[subA]
 ·unfold subA;split
  ·rfl
  ·simp[zb7]
theorem zhF (b:ByteArray) (k:Nat):bl (b.extract 0 k)=(bl b).take k:=by simp[bl]
theorem StepD.fin {M1 M2 M3:Mem} {es2:FsT} {D':zf} (hle:M.le M1) (hk:Mem.keep (zav p b es) M1 M2) (hown:∀ y,zav p b es2 y→zav p b es y) (h3:DAt M3 p b D' es2) (hk3:Mem.keep (fun y=>y=p) M2 M3) (hrel:RelD es2 D'.l):StepD M M3 p b es es2 D':=
 ⟨h3,hrel,fun y o hy ho=>hk3 _ _ (fun e=>hy (.inl e)) (hk _ _ hy (hle _ _ ho)),fun y hy => .inl (hown y hy)⟩
theorem zte {s:ByteArray} (h:zat D s=0):D.down=false∧zaM D s=0:=by
 unfold zat at h;split at h
 ·omega
 ·rename_i g;have g1:zaM D s=0:=by simpa using g
  refine⟨?_,g1⟩;rw[←Yb9];intro hd;unfold zaM at g1;rw[if_pos hd] at g1;cases g1
theorem zmJ (hr:RelD es D.l) {s:ByteArray} {x:FX} (hx:ze es s=some x):(zq D s).name=s∧x.p=bl (zq D s).all∧x.safe=(zq D s).safe.size∧zh D.l s=some (zq D s):=by
 obtain⟨f,hf,hfn,hfp,hfs⟩:=hr.get hx;have hfile:zq D s=f:=by unfold zq;rw[hf];rfl
 rw[hfile];exact⟨hfn,hfp,hfs,hf⟩
theorem zGX (h:DAt M p b D es) (hr:RelD es D.l) (hI:InvD D) (s:ByteArray) (hs:s.size≤4611686018427387904) :
  CallsM prog 210 [ptr p,.string s] M fun v M'=>v = .int .i64 (zbz D s).2∧∃ es',StepD M M' p b es es' (zbz D s).1:=by
 refine zpr oS ?_;refine zM (zml h hr s hs) ?_;rintro v M1 ⟨hle1,⟨hne,rfl⟩|⟨h0,x,hx,rfl⟩⟩
 ·(conv=>whnf);refine brn_t (by simp[hne]) ?_;refine zR ?_;have e:zbz D s=(D,zat D s):=by unfold zbz;rw[if_pos hne]
  rw[e];exact⟨rfl,es,.same h hr hle1⟩
 have h1:=h.le hle1;have hx1:FXAt M1 x:=h1.ents _ (zG hx)
 obtain⟨hfn,hfp,hfs,hff⟩:=zmJ hr hx;obtain⟨hdn, -⟩:=zte h0;refine zK hx1.self ?_;refine on hx1.self.cells ?_;refine ob oS ?_;obtain⟨h2,hk2,ho2⟩:=h1.setFile (x':=⟨x.f,x.a,x.c,x.p,x.p.length⟩) hx rfl hx1.row (fun y hy=>hy) rfl;obtain⟨M2,hM2⟩:=oI (M1.setCells x.f 120 [.slice x.a x.p.length x.c,.int .i64 x.p.length]);dsimp only at h2 hk2;rw[←hM2] at h2 hk2;erw [←hM2];refine zM (zjm h2 hdn (za5 D.l ⟨s,(zq D s).all,.empty⟩) hI.left.2) ?_;rintro v M3 ⟨rfl,h3,hk3⟩;have e:zbz D s=(zbb D (za5 D.l ⟨s,(zq D s).all,.empty⟩),0):=by unfold zbz;rw[if_neg (by simp[h0])]
 refine zR ?_;rw[e];refine⟨rfl,_,.fin hle1 (fun y o hy ho=>hk2 _ _ (fun e=>hy (.inr (.inr ⟨_,zG hx,.inl e⟩))) ho) ho2 h3 hk3 ?_⟩;exact hr.put (x:=⟨x.f,x.a,x.c,x.p,x.p.length⟩) (f:=⟨s,(zq D s).all,.empty⟩) (by simp[cont,FileR.all,hfp,←zbP])
theorem zIB (h:DAt M p b D es) (hr:RelD es D.l) (hI:InvD D) (s:ByteArray) (hs:s.size≤4611686018427387904) (k:Int) :
  CallsM prog 298 [ptr p,.string s,.int .i64 k] M fun v M'=>v = .int .i64 (zcp D s k).2∧∃ es',StepD M M' p b es es' (zcp D s k).1:=by
 refine zqA oS ?_;refine zM (zml h hr s hs) ?_;rintro v M1 ⟨hle1,⟨hne,rfl⟩|⟨h0,x,hx,rfl⟩⟩
 ·(conv=>whnf);refine brn_t (by simp[hne]) ?_;refine zR ?_;have e:zcp D s k=(D,zat D s):=by unfold zcp;rw[if_pos hne]
  rw[e];exact⟨rfl,es,.same h hr hle1⟩
 have h1:=h.le hle1;have hx1:FXAt M1 x:=h1.ents _ (zG hx)
 obtain⟨hfn,hfp,hfs,hff⟩:=zmJ hr hx;obtain⟨hdn, -⟩:=zte h0;have hxl:x.p.length=(zq D s).all.size:=by rw[hfp,zbP]
 refine zR ?_;refine brn (fun g=>?_) (fun g=>?_)
 ·replace g:=Zd0 g;have e:zcp D s k=(D,1):=by unfold zcp;rw[if_neg (by simp[h0]),if_pos oM]
  refine zR ?_;rw[e];exact⟨rfl,es,.same h hr hle1⟩
 replace g:=Zd1 g;refine zK hx1.self ?_;refine brn (fun g1=>?_) (fun g1=>?_)
 ·replace g1:=Zd0 g1;have e:zcp D s k=(D,1):=by unfold zcp;rw[if_neg (by simp[h0]),if_pos oM]
  refine zR ?_;rw[e];exact⟨rfl,es,.same h hr hle1⟩
 replace g1:=Zd1 g1;have hrow:=hx1.row
 have hsub:=Wr.subA0 hrow;have hrow':=hrow
 unfold Wr at hrow';have hkn:k.toNat≤x.p.length:=by omega
 refine zK hx1.self ?_;refine ob ⟨by decide,by omega,by omega⟩ ?_;refine on hx1.self.cells ?_;refine ob oS ?_
 have hk2:Mem.keep (fun y=>y=x.f) M1 (M1.setCells x.f 120 [.slice (subA x.a 0 x.c 1) (k.toNat - 0) (x.c - 0),.int .i64 x.safe]):=fun y o hy ho=>by
  unfold Mem.setCells;rw[Yh _ _ hy];exact ho
 have hs2:(M1.setCells x.f 120 [.slice (subA x.a 0 x.c 1) (k.toNat - 0) (x.c - 0),.int .i64 x.safe]).has x.f 120 [.slice (subA x.a 0 x.c 1) (k.toNat - 0) (x.c - 0),.int .i64 x.safe]:=Yg;have hse:∀ (cs:List Value),(M1.setCells x.f 120 [.slice (subA x.a 0 x.c 1) (k.toNat - 0) (x.c - 0),.int .i64 x.safe]).setCells x.f 120 cs=M1.setCells x.f 120 cs:=fun cs=>Mem.setCells_setCells ..
 obtain⟨M2,hM2⟩:=oI (M1.setCells x.f 120 [.slice (subA x.a 0 x.c 1) (k.toNat - 0) (x.c - 0),.int .i64 x.safe]);rw[←hM2] at hk2 hs2 hse;erw [←hM2];refine zR ?_;refine on hs2.cells ?_;refine ob oS ?_;obtain⟨x',hx'⟩:∃ x':FX,x'=⟨x.f,x.a,x.c,x.p.take k.toNat,k.toNat⟩:=⟨_,rfl⟩
 have hlen':x'.p.length=k.toNat:=by rw[hx'];simp;omega
 have hrow2:Wr M1 5 1 x'.a x'.p.length x'.c (x'.p.map zc):=by
  rw[hlen',hx'];unfold Wr;obtain⟨w1,w2,w3⟩:=hrow';refine⟨by simp;omega,by grind,w3.imp id fun ⟨bb,cs,e1,e2,e3,e4⟩=>⟨bb,cs,e1,e2,e3,?_⟩⟩;rw[Ybi] at e4 ⊢;rw[List.map_take,←e4,Yb0,Ybg hkn]
 obtain⟨h3,hk3,ho3⟩:=h1.setFile (x':=x') hx (by rw[hx']) hrow2 (fun y hy=>by simp_all) rfl
 have hcells:[Value.slice x'.a x'.p.length x'.c,.int .i64 x'.safe]=[.slice (subA x.a 0 x.c 1) (k.toNat - 0) (x.c - 0),.int .i64 k]:=by
  rw[hsub,hlen',hx',Ycr,Ycr];have:((k.toNat:Nat):Int)=k:=by omega
  dsimp only;rw[this]
 rw[hcells,←hse] at h3 hk3;obtain⟨M3,hM3⟩:=oI (M2.setCells x.f 120 [.slice (subA x.a 0 x.c 1) (k.toNat - 0) (x.c - 0),.int .i64 k]);rw[←hM3] at h3 hk3;erw [←hM3];refine zM (zjm h3 hdn (za5 D.l ⟨s,(zq D s).all.extract 0 k.toNat,.empty⟩) hI.left.2) ?_;rintro v M4 ⟨rfl,h4,hk4⟩;have e:zcp D s k=(zbb D (za5 D.l ⟨s,(zq D s).all.extract 0 k.toNat,.empty⟩),0):=by unfold zcp;rw[if_neg (by simp[h0]),if_neg oM]
 refine zR ?_;rw[e];refine⟨rfl,_,.fin hle1 (fun y o hy ho=>hk3 _ _ (fun e=>hy (.inr (.inr ⟨_,zG hx,.inl e⟩))) ho) ho3 h4 hk4 ?_⟩;refine hr.put (x:=x') (f:=⟨s,(zq D s).all.extract 0 k.toNat,.empty⟩) ?_;rw[hx'];simp only[cont,FileR.all,Yci];constructor
 ·rw[zbv,show bl ByteArray.empty=[] from rfl,Yt,hfp,zhF];rfl
 ·rw[←zbP,zhF,Ya2,show bl ((zq D s).safe++(zq D s).tail)=x.p from hfp.symm];omega
theorem zCw (h:DAt M p b D es) (hr:RelD es D.l) (hI:InvD D) (s:ByteArray) (hs:s.size≤4611686018427387904) :
  CallsM prog 148 [ptr p,.string s] M fun v M'=>v = .int .i64 (z7 D s).2∧∃ es',StepD M M' p b es es' (z7 D s).1:=by
 refine znr oS ?_;refine zM (zml h hr s hs) ?_;rintro v M1 ⟨hle1,⟨hne,rfl⟩|⟨h0,x,hx,rfl⟩⟩
 ·(conv=>whnf);refine brn_t (by simp[hne]) ?_;refine zR ?_;have e:z7 D s=(D,zat D s):=by unfold z7;rw[if_pos hne]
  rw[e];exact⟨rfl,es,.same h hr hle1⟩
 have h1:=h.le hle1;obtain⟨hdn, -⟩:=zte h0;refine zK h1.self ?_;refine h1.map.del zsZ s fun q2 f2 hm=>?_
 replace hm:=hm M1;obtain⟨M2,hM2⟩:=oI (M1.upd b (zdq q2 f2));have hk2:Mem.keep (fun y=>y=b) M1 M2:=hM2▸Yad _ _ rfl
 rw[←hM2] at hm;erw [←hM2];have h2:=h1.less s hk2 hm
 refine zM (zjm h2 hdn (zaP D.l s) hI.left.2) ?_;rintro v M3 ⟨rfl,h3,hk3⟩;have e:z7 D s=(zbb D (zaP D.l s),0):=by unfold z7;rw[if_neg (by simp[h0])]
 refine zR ?_;rw[e];exact⟨rfl,_,.fin hle1 (fun y o hy ho=>hk2 _ _ (fun e=>hy (.inr (.inl e))) ho) (fun y hy=>zz0 hy) h3 hk3 (hr.del s)⟩
end
end Go.Proofs.YtlgbofpennelhaaGreat
namespace Go.Proofs.YtlgbofpennelhaaGreat
open Go Go.Proofs Go.Shelf
def Tryz.lays190_ren:Go.Shelf.Ren:=⟨fun|190=>90|125=>158|258=>157|128=>244|129=>245|302=>235|303=>236|304=>237|305=>238|306=>239|307=>240|308=>241|309=>242|310=>243|333=>301|329=>302|330=>303|334=>304|335=>305|336=>306|344=>373|n=>n,fun|31=>116|9=>9|3=>3|46=>56|0=>0|51=>356|53=>271|4=>4|183=>368|182=>367|131=>247|5=>5|218=>422|222=>426|228=>477|229=>478|n=>n,fun|n=>n⟩
theorem Tryz.lays190:Go.Proofs.Lays.n190 Tryz.prog Tryz.lays190_ren:={
 mixed:=by kernel_rfl
 f125:=Tryz.func158.trans (congrArg some (by kernel_rfl))
 f128:=Tryz.func244.trans (congrArg some (by kernel_rfl))
 f129:=Tryz.func245.trans (congrArg some (by kernel_rfl))
 f190:=Tryz.func90.trans (congrArg some (by kernel_rfl))
 f258:=Tryz.func157.trans (congrArg some (by kernel_rfl))
 f302:=Tryz.func235.trans (congrArg some (by kernel_rfl))
 f303:=Tryz.func236.trans (congrArg some (by kernel_rfl))
 f304:=Tryz.func237.trans (congrArg some (by kernel_rfl))
 f305:=Tryz.func238.trans (congrArg some (by kernel_rfl))
 f306:=Tryz.func239.trans (congrArg some (by kernel_rfl))
 f307:=Tryz.func240.trans (congrArg some (by kernel_rfl))
 f308:=Tryz.func241.trans (congrArg some (by kernel_rfl))
 f309:=Tryz.func242.trans (congrArg some (by kernel_rfl))
 f310:=Tryz.func243.trans (congrArg some (by kernel_rfl))
 f329:=Tryz.func302.trans (congrArg some (by kernel_rfl))
 f330:=Tryz.func303.trans (congrArg some (by kernel_rfl))
 f333:=Tryz.func301.trans (congrArg some (by kernel_rfl))
 f334:=Tryz.func304.trans (congrArg some (by kernel_rfl))
 f335:=Tryz.func305.trans (congrArg some (by kernel_rfl))
 f336:=Tryz.func306.trans (congrArg some (by kernel_rfl))
 f344:=Tryz.func373.trans (congrArg some (by kernel_rfl))
 t0:=Tryz.underlying0
 a0:=Tryz.isAgg0
 z0:=Tryz.sizeOf0
 v0:=Tryz.zeroValue0
 t3:=Tryz.underlying3
 a3:=Tryz.isAgg3
 z3:=Tryz.sizeOf3
 v3:=Tryz.zeroValue3
 t4:=Tryz.underlying4
 a4:=Tryz.isAgg4
 z4:=Tryz.sizeOf4
 v4:=Tryz.zeroValue4
 t5:=Tryz.underlying5
 a5:=Tryz.isAgg5
 z5:=Tryz.sizeOf5
 v5:=Tryz.zeroValue5
 t9:=Tryz.underlying9
 a9:=Tryz.isAgg9
 z9:=Tryz.sizeOf9
 v9:=Tryz.zeroValue9
 t31:=Tryz.underlying116
 a31:=Tryz.isAgg116
 z31:=Tryz.sizeOf116
 v31:=Tryz.zeroValue116
 t46:=Tryz.underlying56
 a46:=Tryz.isAgg56
 z46:=Tryz.sizeOf56
 v46:=Tryz.zeroValue56
 t51:=Tryz.underlying356
 a51:=Tryz.isAgg356
 z51:=Tryz.sizeOf356
 v51:=Tryz.zeroValue356
 t53:=Tryz.underlying271
 a53:=Tryz.isAgg271
 z53:=Tryz.sizeOf271
 v53:=Tryz.zeroValue271
 t131:=Tryz.underlying247
 a131:=Tryz.isAgg247
 z131:=Tryz.sizeOf247
 v131:=Tryz.zeroValue247
 t182:=Tryz.underlying367
 a182:=Tryz.isAgg367
 z182:=Tryz.sizeOf367
 v182:=Tryz.zeroValue367
 t183:=Tryz.underlying368
 a183:=Tryz.isAgg368
 z183:=Tryz.sizeOf368
 v183:=Tryz.zeroValue368
 t218:=Tryz.underlying422
 a218:=Tryz.isAgg422
 z218:=Tryz.sizeOf422
 v218:=Tryz.zeroValue422
 t222:=Tryz.underlying426
 a222:=Tryz.isAgg426
 z222:=Tryz.sizeOf426
 v222:=Tryz.zeroValue426
 t228:=Tryz.underlying477
 a228:=Tryz.isAgg477
 z228:=Tryz.sizeOf477
 v228:=Tryz.zeroValue477
 t229:=Tryz.underlying478
 a229:=Tryz.isAgg478
 z229:=Tryz.sizeOf478
 v229:=Tryz.zeroValue478 }
end Go.Proofs.YtlgbofpennelhaaGreat
namespace Go.Proofs.YtlgbofpennelhaaGreat
open Go Go.Vm Go.Proofs.Tryz
attribute [local irreducible] Brn Ob Grow CallsM inR zI zF Mem.row Mem.cells Mem.setCells Mem.upd Go.Vm.Own zZ zaj zam zO New SrcOk subA NewSl Mem.textAt Mem.mapAt Mem.iterAt zC zB Wr NewEls Elems
set_option maxRecDepth 10000
variable {M:Mem} {p b:Nat} {D:zf} {es:FsT}
theorem zmK {α:Type} (cs vs:List α) (h:cs.length=vs.length):zd cs 0 vs=vs:=by
 unfold zd;simp;omega
theorem zGY (h:DAt M p b D es) (hr:RelD es D.l) (hI:InvD D) (s:ByteArray) (hs:s.size≤4611686018427387904) :
  CallsM prog 150 [ptr p,.string s] M fun v M'=>∃ a n c,v = .tuple #[.slice a n c,.int .i64 (zao D s).2]∧n=(bl (zao D s).1).length∧NewSl M 5 1 a n c ((bl (zao D s).1).map zc) M':=by
 refine zpm oS ?_;refine zM (zml h hr s hs) ?_;rintro v M1 ⟨hle1,⟨hne,rfl⟩|⟨h0,x,hx,rfl⟩⟩
 ·(conv=>whnf);refine brn_t (by simp[hne]) ?_;refine zR ?_;have e:zao D s=(.empty,zat D s):=by unfold zao;rw[if_pos hne]
  rw[e];exact⟨none,0,0,rfl,rfl,(Yaw M 5 1).up hle1⟩
 have h1:=h.le hle1;have hx1:FXAt M1 x:=h1.ents _ (zG hx)
 obtain⟨hfn,hfp,hfs,hff⟩:=zmJ hr hx
 have hxl:x.p.length≤1048576:=by
  have h1:=zvY (zG hx);have h2:=hr.used
  have h3:=hI.used;dsimp only at h1;omega
 refine zK hx1.self ?_;refine ob ⟨by omega,rfl,by omega,by omega⟩ ?_;refine new (fun b2 hb2=>?_);replace hb2:M1 b2=none:=hb2;have hle2:M1.le (M1.setCells b2 5 (List.replicate (x.p.length:Int).toNat [Value.int .u8 0]).flatten):=Yw hb2
 have hs2:(M1.setCells b2 5 (List.replicate (x.p.length:Int).toNat [Value.int .u8 0]).flatten).has b2 5 (List.replicate (x.p.length:Int).toNat [Value.int .u8 0]).flatten:=Yg;have hlen2:(List.replicate (x.p.length:Int).toNat [Value.int .u8 0]).flatten.length=x.p.length:=by simp
 generalize (List.replicate (x.p.length:Int).toNat [Value.int .u8 0]).flatten=zs at *;obtain⟨M2,hM2⟩:=oI (M1.setCells b2 5 zs);rw[←hM2] at hle2 hs2;erw [←hM2];have hx2:=hx1.le hle2
 refine zK hx2.self ?_;refine zb2 hx2.row.src ?_;refine ob ⟨by omega,zaA _⟩ ?_;refine on hs2.cells ?_;refine ob (by simp_all) ?_
 have hk3:Mem.keep (fun y=>y=b2) M2 (M2.setCells b2 5 (zd zs 0 (x.p.map zc))):=fun y o hy ho=>by
  unfold Mem.setCells;rw[Yh _ _ hy];exact ho
 have hs3:(M2.setCells b2 5 (zd zs 0 (x.p.map zc))).has b2 5 (zd zs 0 (x.p.map zc)):=Yg;rw[zmK zs _ (by simp_all)] at hk3 hs3;obtain⟨M3,hM3⟩:=oI (M2.setCells b2 5 (zd zs 0 (x.p.map zc)));rw[←zmK zs (x.p.map zc) (by simp_all),←hM3] at hk3;have hs3':M3.has b2 5 (x.p.map zc):=by rw[hM3,zmK zs _ (by simpa using hlen2)];exact hs3
 erw [←hM3];refine zR ?_;have e:zao D s=((zq D s).all,0):=by unfold zao;rw[if_neg (by simp[h0])]
 rw[e];dsimp only;rw[←hfp]
 have hbM:M b2=none:=by
  cases e:M b2 with
  | none=>rfl
  | some z=>rw[hle1 _ _ e] at hb2;cases hb2
 refine⟨_,_,_,rfl,by omega,newSl_iff.2 ⟨hk3.le (Yc hle1 hle2) (fun y hy=>hy▸hbM),by simp,by omega,.inr ⟨b2,x.p.map zc,rfl,hbM,hs3',by simp,by rw[Yf (by simp)]⟩⟩⟩
theorem zGZ (h:DAt M p b D es) (hr:RelD es D.l) (s:ByteArray) :
  CallsM prog 209 [ptr p,.string s] M fun v M'=>v = .int .i64 (match zh D.l s with|some f=>(f.safe.size:Int)|none=>0)∧M=M':=by
 refine zpq oS ?_;refine zK h.self ?_;refine h.map.get zsZ s (fun hn=>?_) (fun x j hx=>?_)
 ·refine zR ?_;rw[hr.none.1 hn];exact⟨rfl,rfl⟩
 ·obtain⟨hfn,hfp,hfs,hff⟩:=zmJ hr hx;have hx1:FXAt M x:=h.ents _ (zG hx)
  refine zK h.self ?_;refine h.map.get zsZ s (fun hn=>?_) (fun x' j' hx'=>?_)
  ·simp_all
  ·rw[hx] at hx';cases hx';refine zW hx1.self ?_;rw[hff,hfs];exact⟨rfl,rfl⟩
theorem zG0 (h:DAt M p b D es):CallsM prog 81 [ptr p] M fun v M'=>v = .bool D.down∧M=M':=by
 refine zpe oS ?_;refine zW h.self ?_;exact⟨rfl,rfl⟩
theorem zwq (l:List ByteArray):l.map zgZ=(l.map bl).map Go.Proofs.encStr:=by
 rw[Ya4];apply Yav;intro s _;exact congrArg Value.string (zJy s).symm
theorem zqS (h:DAt M p b D es) (hr:RelD es D.l) (hI:InvD D) :
  CallsM prog 44 [ptr p] M fun v M'=>∃ a c,v = .slice a D.l.length c∧NewSl M 9 1 a D.l.length c ((D.l.map (·.name)).map zgZ) M':=by
 refine znY oS ?_;have hlen:=hr.len
 have hI1:=hI.len;refine zK h.self ?_;refine h.map.range fun q bi hbi hI2=>?_
 replace hbi:M bi=none:=hbi
 refine zak (σ:=Mem×(Option Addr×Nat×Nat)×List ByteArray×FsT) [3] (fun x=>[(3,.slice x.2.1.1 x.2.1.2.1 x.2.1.2.2)]) (fun _=>[]) (fun x=>x.1)
  (fun|⟨M1,(a,n,c),l,todo⟩=>NewSl M 9 1 a n c (l.map zgZ) M1∧Iter zgZ fxV M1 bi b es todo∧(l++todo.map (·.1)).Perm (es.map (·.1))) (fun x=>x.2.2.2.length) ⟨_,(none,0,0),[],es⟩
  ⟨(Yaw M 9 1).up (Ya8 hbi),hI2,by simp⟩ zS ?_
 rintro ⟨M1,⟨a,n,c⟩,l,todo⟩ ⟨hN,hI3,hperm⟩;refine hI3.next (fun h0=>?_) (fun i k todo' o' hperm2 hI4 hent=>?_)
 ·subst h0;have hl:l.length=n:=hN.src.maplen
  have hln:n=D.l.length:=by have:=hperm.length_eq;simp at this;omega
  refine zR ?_;have hw:=hN.wr
  rw[zwq] at hw;refine(zDM Tryz.lays190 (by kernel_rfl) hw (show n<4611686018427387904 by omega)).mono ?_;rintro v M2 ⟨rfl,hw2,hk2⟩
  have hnames:zhb (l.map bl)=(D.l.map (·.name)).map bl:=by
   refine Ydu (le:=fun x y=>x≤y) (fun x y _ _ h1 h2=>List.le_antisymm h1 h2) ?_ ?_ ?_
   ·have:=List.pairwise_mergeSort (le:=fun (x y:List UInt8)=>decide (x≤y)) (fun a b c h1 h2=>by grind) (fun a b=>by grind) (l.map bl);exact this.imp fun h=>Zd0 h
   ·rw[Ybd,Ybd];exact hr.sort.imp fun {x y} hxy=>List.le_of_lt ((ziC _ _).1 hxy)
   ·refine(zvW _).trans ?_;have h1:l.Perm (es.map (·.1)):=by simpa using hperm
    exact(h1.trans hr.names).map bl
  rw[hnames,←zwq] at hw2;refine zR ?_;rw[hln] at hw2;dsimp only;rw[hln];exact⟨a,c,rfl,hN.ofWr hw2 hk2 rfl⟩
 ·have hk2:Mem.keep (fun y=>y=bi) M1 (M1.upd bi o'):=Yad _ _ rfl
  have hN2:NewSl M 9 1 a n c (l.map zgZ) (M1.upd bi o'):=hN.keep hk2 (fun y e=>e▸hbi) (fun q hq e=>by
    obtain⟨_,cs,hh⟩:=hN.block hq
    exact(hI3.nb hh).1 e)
  obtain⟨M2,hM2⟩:=oI (M1.upd bi o');rw[←hM2] at hI4 hent hN2;have hl:l.length=n:=hN.src.maplen
  have hlt:l.length<es.length:=by have:=hperm.length_eq;have:=hperm2.length_eq;simp at *; omega
  erw [←hM2];refine zR ?_;refine on hent ?_;refine ziQ M _ hN2 (by grind) (by simp[maxLen];omega) oC fun a6 c6 M6 hN6 hk6=>?_
  have hnb:∀ y,blk a y→y≠bi∧y≠b:=fun y ⟨q,hq,e⟩=>by
   obtain⟨_,cs,hh⟩:=hN2.block hq;exact e▸hI4.nb hh
  have hI6:=hI4.keep hk6 (fun hb=>(hnb _ hb).1 rfl) (fun hb=>(hnb _ hb).2 rfl);refine⟨⟨M6,(a6,n+1,c6),l++[i],todo'⟩,⟨by simpa using hN6,hI6,?_⟩,by have:=hperm2.length_eq;simp at this ⊢; omega,zS⟩;refine List.Perm.trans ?_ hperm;rw[Yr];refine Yc9 _ ?_;simpa using (hperm2.map (·.1)).symm
end Go.Proofs.YtlgbofpennelhaaGreat
namespace Go.Proofs.YtlgbofpennelhaaGreat
open Go Go.Vm
variable {D:zf}
theorem zxZ {s:ByteArray} (h:zaM D s=0):D.down=false∧zbZ s=true:=by
 unfold zaM at h;split at h
 ·cases h
 ·simp_all
theorem zcl {s:ByteArray} (h:zat D s=0):zaM D s=0∧zh D.l s=some (zq D s):=by
 unfold zat at h;split at h
 ·omega
 ·rename_i g;split at h
  ·cases h
  ·rename_i hf;refine⟨by omega,?_⟩;obtain⟨f,hf'⟩:=Yba.1 hf;rw[hf'];unfold zq;rw[hf'];rfl
theorem InvD.with (h:InvD D) {f:FileR} (hl:zh D.l f.name=none→D.l.length<64) (hu:za0 (zaP D.l f.name)+(f.safe.size+f.tail.size)≤1048576):SortedR (za5 D.l f)∧(za5 D.l f).length≤64∧za0 (za5 D.l f)≤1048576:=by
 refine⟨zhv h.sort f,?_,?_⟩
 ·rw[za5,zik];cases hf:zh D.l f.name with
  | none=>rw[zfL hf];have:=hl hf;omega
  | some x=>have:=(zci h.sort hf).1;have:=h.len;omega
 ·rw[za5,zkA];omega
theorem InvD.changed (h:InvD D) {l:List FileR} (h1:SortedR l∧l.length≤64∧za0 l≤1048576):InvD (zbb D l):=by
 refine⟨h1.1,h1.2.1,h1.2.2,h.limit,?_⟩;have:=h.left
 unfold zbb;dsimp only;split<;>omega
theorem InvD.without (h:InvD D) (s:ByteArray):SortedR (zaP D.l s)∧(zaP D.l s).length≤64∧za0 (zaP D.l s)≤1048576:=by
 refine⟨zfz h.sort s,Yz (Yat _ _) h.len,?_⟩;cases hf:zh D.l s with
 | none=>rw[zfL hf];exact h.used
 | some x=>have:=(zci h.sort hf).2;have:=h.used;omega
theorem zwr {limit:Int} (h:¬(limit<1∨1048576<limit)):InvD ⟨limit,[], -1,false⟩:=
 ⟨by simp[SortedR],by simp,by simp[za0],by grind,by simp⟩
theorem zqc (h:InvD D) (s:ByteArray) (p:List UInt8):InvD (zap D s p).1:=by
 unfold zap;split
 ·exact h
 ·split
  ·exact h
  ·rename_i h1 h2;have hu:=h.used
   have hlim:=h.limit;refine h.changed (h.with (fun hf=>?_) ?_)
   ·simp_all
   ·dsimp only;have hsz:((zq D s).tail++(⟨p.toArray⟩:ByteArray)).size=(zq D s).tail.size+p.length:=by rw[←zbP,zbv,Yi,zbP,zmj]
    rw[hsz];cases hf:zh D.l s with
    | none=>
     rw[zfL hf];have:zq D s=⟨s,.empty,.empty⟩:=by unfold zq;rw[hf];rfl
     rw[this];have:ByteArray.empty.size=0:=rfl
     dsimp only;omega
    | some x=>
     have:zq D s=x:=by unfold zq;rw[hf];rfl
     rw[this];have:=(zci h.sort hf).2
     omega
theorem all_size (f:FileR):f.all.size=f.safe.size+f.tail.size:=by rw[←zbP,FileR.all_size]
theorem InvD.there (h:InvD D) {s:ByteArray} (h0:zat D s=0) {f:FileR} (hn:f.name=s) (hs:f.safe.size+f.tail.size≤(zq D s).safe.size+(zq D s).tail.size):SortedR (za5 D.l f)∧(za5 D.l f).length≤64∧za0 (za5 D.l f)≤1048576:=by
 have hf:=(zcl h0).2;refine h.with (fun hn'=>?_) ?_
 ·simp_all
 ·rw[hn];have:=(zci h.sort hf).2
  have:=h.used;omega
theorem zot (h:InvD D) (s:ByteArray):InvD (zbz D s).1:=by
 unfold zbz;split
 ·exact h
 ·rename_i h0;refine h.changed (h.there (by simp_all) rfl ?_);have:ByteArray.empty.size=0:=rfl
  dsimp only;rw[all_size];omega
theorem zws (h:InvD D) (s:ByteArray) (k:Int):InvD (zcp D s k).1:=by
 unfold zcp;split
 ·exact h
 ·split
  ·exact h
  ·rename_i h0 _;refine h.changed (h.there (by simp_all) rfl ?_);have:ByteArray.empty.size=0:=rfl
   dsimp only;have:((zq D s).all.extract 0 k.toNat).size≤(zq D s).all.size:=by rw[←zbP,←zbP,zhF,Ya2];omega
   rw[all_size] at this;omega
theorem zez (h:InvD D) (s:ByteArray):InvD (z7 D s).1:=by
 unfold z7;split
 ·exact h
 ·exact h.changed (h.without s)
end Go.Proofs.YtlgbofpennelhaaGreat
namespace Go.Proofs.YtlgbofpennelhaaGreat
open Go Go.Vm Go.Proofs.Tryz
attribute [local irreducible] Brn Ob Grow CallsM inR zI zF Mem.row Mem.cells Mem.setCells Mem.upd Go.Vm.Own zZ zaj zam zO New SrcOk subA NewSl Mem.textAt Mem.mapAt Mem.iterAt zC zB Wr NewEls Elems
set_option maxRecDepth 10000
variable {M M0:Mem} {p b:Nat} {D:zf} {es:FsT}
structure FreshD (M0 M:Mem) (p b:Nat) (D:zf) (es:FsT):Prop where
 le:M0.le M
 at':DAt M p b D es
 rel:RelD es D.l
 inv:InvD D
 fresh:∀ y,zav p b es y→M0 y=none
theorem FreshD.to (h:FreshD M0 M p b D es) {M':Mem} (hle:M.le M'):FreshD M0 M' p b D es:=⟨Yc h.le hle,h.at'.le hle,h.rel,h.inv,h.fresh⟩
theorem FreshD.base (h:FreshD M0 M p b D es):FreshD (M.minus (zav p b es)) M p b D es∧M0.le (M.minus (zav p b es)):=
 ⟨⟨Yab _ _,h.at',h.rel,h.inv,fun _ hy=>Yaq hy⟩,Ybs h.le h.fresh⟩
theorem FreshD.step (h:FreshD M0 M p b D es) {M':Mem} {es':FsT} {D':zf} (hs:StepD M M' p b es es' D') (hi:InvD D'):FreshD M0 M' p b D' es':=
 ⟨hs.keep.le h.le h.fresh,hs.at',hs.rel,hi,fun y hy=>by
  rcases hs.own y hy with h1|h1
  ·exact h.fresh y h1
  ·cases e:M0 y with
   | none=>rfl
   | some z=>rw[h.le _ _ e] at h1;cases h1⟩
theorem zIC (limit:Int):CallsM prog 15 [.int .i64 limit] M fun v M'=>
  ((limit<1∨1048576<limit)∧v = .tuple #[.pointer none,.int .i64 1]∧M'=M) ∨
  (¬(limit<1∨1048576<limit)∧∃ p b,v = .tuple #[ptr p,.int .i64 0]∧FreshD M M' p b ⟨limit,[], -1,false⟩ []):=
 (zGw limit).mono fun v M' h=>by
  rcases h with h|⟨h1,p,b,h2,h3,h4,h5⟩
  ·exact .inl h
  ·exact .inr ⟨h1,p,b,h2,h3,h4,RelD.nil,zwr h1,h5⟩
theorem ztf (h:FreshD M0 M p b D es) {s:ByteArray} (hs:s.size≤4611686018427387904) {a:Option Addr} {n c:Nat} {l:List UInt8} (hl:SrcOk M 1 a n (l.map zc)) :
  CallsM prog 207 [ptr p,.string s,.slice a n c] M fun v M'=>∃ es',v = .int .i64 (zap D s l).2∧FreshD M0 M' p b (zap D s l).1 es':=
 (zBW h.at' h.rel h.inv s hs hl).mono fun _ _ ⟨hv,es',h'⟩=>⟨es',hv,h.step h' (zqc h.inv s l)⟩
theorem zJH (h:FreshD M0 M p b D es) {s:ByteArray} (hs:s.size≤4611686018427387904):CallsM prog 210 [ptr p,.string s] M fun v M'=>∃ es',v = .int .i64 (zbz D s).2∧FreshD M0 M' p b (zbz D s).1 es':=
 (zGX h.at' h.rel h.inv s hs).mono fun _ _ ⟨hv,es',h'⟩=>⟨es',hv,h.step h' (zot h.inv s)⟩
theorem zKT (h:FreshD M0 M p b D es) {s:ByteArray} (hs:s.size≤4611686018427387904) (k:Int):CallsM prog 298 [ptr p,.string s,.int .i64 k] M fun v M'=>∃ es',v = .int .i64 (zcp D s k).2∧FreshD M0 M' p b (zcp D s k).1 es':=
 (zIB h.at' h.rel h.inv s hs k).mono fun _ _ ⟨hv,es',h'⟩=>⟨es',hv,h.step h' (zws h.inv s k)⟩
theorem zyU (h:FreshD M0 M p b D es) {s:ByteArray} (hs:s.size≤4611686018427387904):CallsM prog 148 [ptr p,.string s] M fun v M'=>∃ es',v = .int .i64 (z7 D s).2∧FreshD M0 M' p b (z7 D s).1 es':=
 (zCw h.at' h.rel h.inv s hs).mono fun _ _ ⟨hv,es',h'⟩=>⟨es',hv,h.step h' (zez h.inv s)⟩
theorem zFY (h:FreshD M0 M p b D es) {s:ByteArray} (hs:s.size≤4611686018427387904):CallsM prog 150 [ptr p,.string s] M fun v M'=>∃ a n c,v = .tuple #[.slice a n c,.int .i64 (zao D s).2]∧n=(bl (zao D s).1).length∧NewSl M 5 1 a n c ((bl (zao D s).1).map zc) M':=
 zGY h.at' h.rel h.inv s hs
def zgN (D:zf) (s:ByteArray):Nat:=match zh D.l s with|some f=>f.safe.size|none=>0
theorem zFZ (h:FreshD M0 M p b D es) (s:ByteArray):CallsM prog 209 [ptr p,.string s] M fun v M'=>v = .int .i64 (zgN D s)∧M=M':=
 (zGZ h.at' h.rel s).mono fun _ _ ⟨hv,h'⟩=>⟨by rw[hv];unfold zgN;cases zh D.l s<;>rfl,h'⟩
end Go.Proofs.YtlgbofpennelhaaGreat
namespace Go.Proofs.YtlgbofpennelhaaGreat
open Go Go.Vm
theorem zsa (x:Nat) (s:Nat):(zbq (x:Int) (s:Int)).toNat=x / 2 ^ s % 256:=by
 unfold zbq
 have e:((x:Int).fdiv (2 ^ ((s:Int)).toNat))=((x / 2 ^ s:Nat):Int):=by
  rw[Yb5 _ (by exact_mod_cast Y5 (2 ^ s)),Yc4]
  norm_cast
 rw[e];have:(((x / 2 ^ s:Nat):Int) % 256).toNat=x / 2 ^ s % 256:=by omega
 rw[this];simp
theorem ztg {x:Nat} (h:x<4294967296):num (be 4 (x:Int)) 0=x:=by
 have e:be 4 (x:Int)=[zbq (x:Int) ((24:Nat):Int),zbq (x:Int) ((16:Nat):Int),zbq (x:Int) ((8:Nat):Int),zbq (x:Int) ((0:Nat):Int)]:=rfl;rw[e];simp only[num,zsa];omega
theorem zyV {l:List UInt8} (h:l.length=4):be 4 ((num l 0:Nat):Int)=l:=by
 match l,h with
 | [a,b,c,d],_=>
  have e:be 4 ((num [a,b,c,d] 0:Nat):Int)=[zbq ((num [a,b,c,d] 0:Nat):Int) ((24:Nat):Int),zbq ((num [a,b,c,d] 0:Nat):Int) ((16:Nat):Int),zbq ((num [a,b,c,d] 0:Nat):Int) ((8:Nat):Int),zbq ((num [a,b,c,d] 0:Nat):Int) ((0:Nat):Int)]:=rfl;rw[e];have h1:=a.toNat_lt;have h2:=b.toNat_lt;have h3:=c.toNat_lt;have h4:=d.toNat_lt
  have key:∀ (s:Nat) (z:UInt8),num [a,b,c,d] 0 / 2 ^ s % 256=z.toNat→zbq ((num [a,b,c,d] 0:Nat):Int) (s:Int)=z:=fun s z hz=>by
   apply UInt8.toNat_inj.1;rw[zsa,hz]
  simp only[List.cons.injEq,and_true];refine⟨key 24 a ?_,key 16 b ?_,key 8 c ?_,key 0 d ?_⟩<;>simp only[num]<;>omega
def zcH (p:List UInt8):Prop:=1≤p.length∧p.length≤65536
theorem zd4 (p:List UInt8):(zag p).length=8+p.length:=by unfold zag;simp[zcs];omega
theorem sum_nat (l:List UInt8):∃ q:Nat,zhu l=(q:Int)∧q<4294967296:=⟨(zhu l).toNat,by rfl,by have:=zmh l;omega⟩
theorem zsb {p:List UInt8} (h:zcH p) (r:List UInt8):zaE (zag p++r)=some (p,8+p.length):=by
 obtain⟨q,hq,hq2⟩:=sum_nat (be 4 p.length++p);have e:zag p=be 4 p.length++be 4 (q:Int)++p:=by unfold zag;rw[hq]
 have l1:(be 4 (p.length:Int)).length=4:=zcs 4 _;have l2:(be 4 (q:Int)).length=4:=zcs 4 _
 have t1:(zag p++r).take 4=be 4 p.length:=by rw[e,Yr,Yr,Y4 oM,Yf oM]
 have t2:((zag p++r).drop 4).take 4=be 4 (q:Int):=by
  rw[e,Yr,Yr,Ybl oM,Yaf oM,Yaa,Y4 oM,Yf oM]
 have t3:(zag p++r).drop 8=p++r:=by
  have:(be 4 (p.length:Int)++be 4 (q:Int)).length=8:=by simp[l1,l2]
  rw[e,Yr,Ybl oM,Yaf oM,Yaa]
 have hk:num (be 4 (p.length:Int)) 0=p.length:=ztg (by have:=h.2;omega);have hl:(zag p++r).length=8+p.length+r.length:=by rw[Yi,zd4]
 unfold zaE;rw[t1,t2,t3,hk,hl,ztg hq2,Y4 (Yd _),Yaj,if_neg oM,if_neg (by have:=h.1;have:=h.2;omega),if_pos hq]
theorem zAz {l p:List UInt8} {k:Nat} (h:zaE l=some (p,k)):l.take k=zag p∧zcH p:=by
 obtain⟨h1,h2,h3,h4,h5⟩:=zew h;refine⟨?_,h3,h4⟩;unfold zaE at h;split at h
 ·cases h
 ·rename_i g8;split at h
  ·cases h
  ·rename_i g;split at h
   ·rename_i hs;simp only[Y3,Yci] at h;obtain⟨h6,h7⟩:=h;have hk:num (l.take 4) 0=p.length:=by omega
    rw[h6] at hs;have e1:be 4 ((p.length:Nat):Int)=l.take 4:=by rw[←hk];exact zyV (by grind)
    have e2:be 4 (zhu (be 4 (p.length:Int)++p))=(l.drop 4).take 4:=by rw[e1,hs];exact zyV (by grind)
    unfold zag;rw[e2,e1]
    have a1:l.take k=l.take 4++((l.drop 4).take 4++(l.drop 8).take p.length):=by
     have:k=4+(4+p.length):=by omega
     rw[this,List.take_add,List.take_add,Ybo]
    rw[a1,←h5,Yr]
   ·cases h
theorem zwt {p:List UInt8} (h:zcH p) {k:Nat} (hk:k<8+p.length):zaE ((zag p).take k)=none:=by
 have hlen:((zag p).take k).length=k:=by rw[Ya2,zd4];omega
 unfold zaE;rw[hlen];split
 ·rfl
 ·rename_i g
  have t1:((zag p).take k).take 4=be 4 p.length:=by
   rw[Yb0,Ybg oM];unfold zag;rw[Yr,Y4 (by rw[zcs];omega),Yf (by rw[zcs];omega)]
  rw[t1,ztg (by have:=h.2;omega),if_pos (.inr (.inr oM))]
def za6 (ps:List (List UInt8)):List UInt8:=ps.flatMap zag
theorem zdU (ps:List (List UInt8)):(za6 ps).length=zah ps:=by
 induction ps with
 | nil=>rfl
 | cons p r ih=>simp only[za6,Ybn,Yi,zd4,zah,Yq,Ybb] at ih ⊢; rw[ih]
theorem zj2 (ps qs:List (List UInt8)):za6 (ps++qs)=za6 ps++za6 qs:=by simp[za6]
theorem zAA {ps:List (List UInt8)} (h:∀ p∈ps,zcH p) (r:List UInt8):zay (za6 ps++r)=ps++zay r:=by
 induction ps with
 | nil=>rfl
 | cons p qs ih=>
  have e:za6 (p::qs)++r=zag p++(za6 qs++r):=by simp[za6]
  rw[e,zjl (zsb (h p oS) _),←zd4,List.drop_left,ih fun q hq=>h q (by simp[hq])];rfl
theorem zx0 {p:List UInt8} (h:zcH p) {k:Nat} (hk:k<8+p.length):zay ((zag p).take k)=[]:=zjk (zwt h hk)
theorem zCx {ps:List (List UInt8)} (h:∀ p∈ps,zcH p) {m:Nat} (hm:m≤zah ps):∃ j,j≤ps.length∧zay ((za6 ps).take m)=ps.take j∧zah (ps.take j)≤m∧∀ i,i≤ps.length→zah (ps.take i)≤m→i≤j:=by
 induction ps generalizing m with
 | nil=>exact⟨0,Yd _,by simp[za6,zay,zga],by simp[zah],fun i hi _=>by omega⟩
 | cons p qs ih=>
  have hp:=h p oS;have e:za6 (p::qs)=zag p++za6 qs:=by simp[za6]
  have el:zah (p::qs)=(8+p.length)+zah qs:=by simp[zah]
  by_cases hlt:m<8+p.length
  ·refine⟨0,Y5 _,?_,by simp[zah],fun i hi hle=>?_⟩
   ·rw[e,Y4 (by rw[zd4];omega),zx0 hp hlt];rfl
   ·cases i with
    | zero=>omega
    | succ i=>
     rw[Ybu] at hle;have:zah (p::qs.take i)=(8+p.length)+zah (qs.take i):=by simp[zah]
     omega
  ·obtain⟨j,h1,h2,h3,h4⟩:=ih (fun q hq=>h q (by simp[hq])) (m:=m - (8+p.length)) oM;refine⟨j+1,by simp;omega,?_,?_,fun i hi hle=>?_⟩
   ·have em:m=(zag p).length+(m - (8+p.length)):=by rw[zd4];omega
    rw[e,em,List.take_length_add_append,zjl (zsb hp _),←zd4,List.drop_left];rw[zd4,h2];rfl
   ·rw[Ybu];have:zah (p::qs.take j)=(8+p.length)+zah (qs.take j):=by simp[zah]
    omega
   ·cases i with
    | zero=>omega
    | succ i=>
     rw[Ybu] at hle;have:zah (p::qs.take i)=(8+p.length)+zah (qs.take i):=by simp[zah]
     have:=h4 i (by simpa using hi) oM;omega
theorem zou:∀ (m:Nat) (l:List UInt8),l.length≤m→l.take (zah (zay l))=za6 (zay l)∧(∀ p∈zay l,zcH p)∧zah (zay l)≤l.length:=by
 intro m
 induction m with
 | zero=>
  intro l hl;have h0:zaE l=none:=by unfold zaE;rw[if_pos oM]
  rw[zjk h0];exact⟨by rfl,by simp,by simp[zah]⟩
 | succ m ih=>
  intro l hl;cases hx:zaE l with
  | none=>
   rw[zjk hx];exact⟨by rfl,by simp,by simp[zah]⟩
  | some q=>
   obtain⟨p,k⟩:=q;obtain⟨h1,h2,h3, -⟩:=zew hx;obtain⟨h5,h6⟩:=zAz hx;obtain⟨h7,h8,h9⟩:=ih (l.drop k) (by grind);rw[zjl hx];have el:zah (p::zay (l.drop k))=k+zah (zay (l.drop k)):=by simp[zah];omega
   rw[Ydc] at h9;refine⟨?_,fun q hq=>?_,by omega⟩
   ·rw[el,List.take_add,h5,h7];simp[za6]
   ·grind
end Go.Proofs.YtlgbofpennelhaaGreat
namespace Go.Proofs.YtlgbofpennelhaaGreat
open Go Go.Vm Go.Proofs.Tryz
attribute [local irreducible] Brn Ob Grow CallsM inR zI zF Mem.row Mem.cells Mem.setCells Mem.upd Go.Vm.Own zZ zaj zam zO New SrcOk subA NewSl Mem.textAt Mem.mapAt Mem.iterAt zC zB Wr NewEls Elems
set_option maxRecDepth 10000
section
variable {M M0:Mem} {g p b:Nat} {D:zf} {es:FsT}
structure zaz where
 first:Int
 last:Int
 size:Int
 failed:Bool
def zcP (D:zf) (k:Int):Nat:=if D.down=true then zgN D (zb k) else (zao D (zb k)).1.size
def zdw (L:zaz) (e:Int):zaz:={ L with failed:=L.failed||decide (e=9) }
def syncL (D:zf) (L:zaz):zf×zaz×Int:=
 if L.failed=true then (D,L,7) else if D.down=true then (D,zdw L 9,9) else if zcP D L.last=zgN D (zb L.last) then (D,L,0)
 else ((zbz D (zb L.last)).1,zdw L (zbz D (zb L.last)).2,(zbz D (zb L.last)).2)
def beginL (D:zf) (L:zaz):zf×zaz×Int×Int:=
 if (syncL D L).2.2≠0 then ((syncL D L).1,(syncL D L).2.1,0,(syncL D L).2.2)
 else if zcP (syncL D L).1 L.last=0 then ((syncL D L).1,(syncL D L).2.1,L.last,0)
 else if L.last=99999 then ((syncL D L).1,(syncL D L).2.1,0,1)
 else ((syncL D L).1,{ (syncL D L).2.1 with last:=L.last+1 },L.last+1,0)
def zAB (D:zf) (L:zaz) (n:Nat):Prop:=0<zcP D L.last∧L.size - zcP D L.last<n
instance (D:zf) (L:zaz) (n:Nat):Decidable (zAB D L n):=inferInstanceAs (Decidable (_∧_))
def zbA (D:zf) (L:zaz) (n:Nat):zf×zaz×Int:=if zAB D L n then ((beginL D L).1,(beginL D L).2.1,(beginL D L).2.2.2) else (D,L,0)
def z8 (D:zf) (L:zaz) (q:List UInt8):zf×zaz×Int:=
 if L.failed=true then (D,L,7) else if zgo q≠0 then (D,L,zgo q) else if D.down=true then (D,zdw L 9,9)
 else if (zbA D L (zag q).length).2.2≠0 then zbA D L (zag q).length
 else ((zap (zbA D L (zag q).length).1 (zb (zbA D L (zag q).length).2.1.last) (zag q)).1,
  zdw (zbA D L (zag q).length).2.1 (zap (zbA D L (zag q).length).1 (zb (zbA D L (zag q).length).2.1.last) (zag q)).2,
  (zap (zbA D L (zag q).length).1 (zb (zbA D L (zag q).length).2.1.last) (zag q)).2)
@[reducible] def zgO (p:Nat) (L:zaz):List Value:=[ptr p,.int .i64 L.first,.int .i64 L.last,.int .i64 L.size,.bool L.failed]
structure LogAt (M0 M:Mem) (g p b:Nat) (D:zf) (es:FsT) (L:zaz):Prop where
 disk:FreshD M0 M p b D es
 self:M.has g 328 (zgO p L)
 fresh:M0 g=none
theorem DAt.notB (h:DAt M p b D es) {g:Nat} {l:List Value} (hg:M.has g 328 l):¬zav p b es g:=by
 rintro (e|e|⟨q,hq,e|⟨a,ha,e⟩⟩)
 ·subst e;exact absurd (h.self.inj hg).1 oD
 ·exact h.map.nb hg e
 ·subst e;exact absurd ((h.ents q hq).self.inj hg).1 oD
 ·obtain⟨cs,hh⟩:=(h.ents q hq).row.block ha;subst e;exact absurd (hh.inj hg).1 oD
theorem FreshD.mono {M1:Mem} (h:FreshD M1 M p b D es) (hle:M0.le M1):FreshD M0 M p b D es:=⟨Yc hle h.le,h.at',h.rel,h.inv,fun y hy=>by
 cases e:M0 y with
 | none=>rfl
 | some z=>have:=hle _ _ e;rw[h.fresh y hy] at this;cases this⟩
theorem LogAt.to {L:zaz} (h:LogAt M0 M g p b D es L) {M':Mem} (hle:M.le M'):LogAt M0 M' g p b D es L:=⟨h.disk.to hle,h.self.le hle,h.fresh⟩
theorem LogAt.call {L:zaz} (h:LogAt M0 M g p b D es L) {M':Mem} {D':zf} {es':FsT} (h':FreshD (M.minus (zav p b es)) M' p b D' es'):LogAt M0 M' g p b D' es' L:=by
 have hg:(M.minus (zav p b es)).has g 328 (zgO p L):=by
  have:=h.self;unfold Mem.has at this ⊢;unfold Mem.minus;rw[if_neg (h.disk.at'.notB h.self)];exact this
 exact⟨h'.mono h.disk.base.2,hg.le h'.le,h.fresh⟩
theorem LogAt.set {L:zaz} (h:LogAt M0 M g p b D es L) (L':zaz):LogAt M0 (M.setCells g 328 (zgO p L')) g p b D es L':=by
 have hk:Mem.keep (fun y=>y=g) M (M.setCells g 328 (zgO p L')):=fun y o hy ho=>by
  unfold Mem.setCells;rw[Yh _ _ hy];exact ho
 refine⟨⟨hk.le h.disk.le (fun y hy=>by rw[hy];exact h.fresh),h.disk.at'.mono fun y o hy ho=>hk y o (fun e=>?_) ho,h.disk.rel,h.disk.inv,h.disk.fresh⟩,Yg,h.fresh⟩;rw[e] at hy;exact h.disk.at'.notB h.self hy
theorem ze6 (k:Int):(zb k).size≤4611686018427387904:=by
 unfold zb;split
 ·simp
 ·show (6:Nat)≤_;decide
theorem zua {L:zaz} (h:M.has g 328 (zgO p L)):CallsM prog 202 [ptr g] M fun v M'=>v = .int .i64 (if L.failed=true then 7 else 0)∧M=M':=by
 refine zqw oS ?_;obtain⟨fi,la,sz,fl⟩:=L;cases fl
 ·refine zW h ?_;exact⟨rfl,rfl⟩
 ·refine zW h ?_;exact⟨rfl,rfl⟩
theorem zib {L:zaz} (h:LogAt M0 M g p b D es L) (e:Int):CallsM prog 204 [ptr g,.int .i64 e] M fun v M'=>v = .int .i64 e∧LogAt M0 M' g p b D es (zdw L e):=by
 refine zrK oS ?_;have h':=h.set (zdw L e)
 have hs:=h.self;clear h;obtain⟨fi,la,sz,fl⟩:=L;cases fl
 ·refine zW hs ?_;refine on hs.cells ?_;refine ob oS ?_;refine zR ?_;exact⟨rfl,h'⟩
 ·refine zW hs ?_;refine on hs.cells ?_;refine ob oS ?_;refine zR ?_;exact⟨rfl,h'⟩
theorem zmL (h:FreshD M0 M p b D es):CallsM prog 81 [ptr p] M fun v M'=>v = .bool D.down∧M=M':=zG0 h.at'
theorem zCy (D:zf) (s:ByteArray):((zao D s).2=9↔D.down=true):=by
 unfold zao zat zaM;cases D.down<;>simp
 repeat' split
 all_goals simp_all
theorem zov {L:zaz} (h:LogAt M0 M g p b D es L) (k:Int):CallsM prog 205 [ptr g,.int .i64 k] M fun v M'=>v = .int .i64 (zcP D k)∧M.le M':=by
 refine zpp oS ?_;refine zW h.self ?_;refine(zec k).mono ?_;rintro v M1 ⟨rfl,hle1⟩;refine zT (hle1) ?_;have h1:=h.to hle1
 refine zM (zFY h1.disk (ze6 k)) ?_;rintro v M2 ⟨a,n,c,rfl,hn,hN⟩;have h2:=h1.to hN.le
 refine zR ?_;refine brn (fun e=>?_) (fun e=>?_)
 ·have hd:=(zCy D (zb k)).1 (Zd0 e);refine zW h2.self ?_;refine(zec k).mono ?_;rintro v M3 ⟨rfl,hle3⟩;have h3:=h2.to hle3
  refine zT (hle3) ?_;refine zN (zFZ h3.disk (zb k)) ?_;refine⟨?_,Yc hle1 (Yc hN.le hle3)⟩;unfold zcP;rw[if_pos hd]
 ·have hd:¬D.down=true:=fun hd=>Zd1 e ((zCy D (zb k)).2 hd)
  refine zR ?_;refine⟨?_,Yc hle1 hN.le⟩;unfold zcP;rw[if_neg hd,hn,zbP]
theorem zwu {L:zaz} (h:LogAt M0 M g p b D es L):CallsM prog 133 [ptr g] M fun v M'=>∃ es',v = .int .i64 (syncL D L).2.2∧LogAt M0 M' g p b (syncL D L).1 es' (syncL D L).2.1:=by
 refine zrD oS ?_;refine zJ (zua h.self) ?_;refine brn (fun e=>?_) (fun e=>?_)
 ·have hf:L.failed=true:=by
   cases hf:L.failed
   ·rw[hf] at e;exact absurd e oD
   ·rfl
  refine zR ?_;rw[if_pos hf,show syncL D L=(D,L,7) by simp[syncL,hf]];exact⟨es,rfl,h⟩
 have hf:¬L.failed=true:=fun hf=>by simp_all
 refine zW h.self ?_;refine zJ (zmL h.disk) ?_;cases hd:D.down
 case true=>
  refine zM (zib h 9) ?_;rintro v M1 ⟨rfl,h1⟩;refine zR ?_;rw[show syncL D L=(D,zdw L 9,9) by simp[syncL,hf,hd]];exact⟨es,rfl,h1⟩
 refine zQ h.self ?_;refine(zov h L.last).mono ?_;rintro v M1 ⟨rfl,hle1⟩;have h1:=h.to hle1
 refine zT (hle1) ?_;refine zM (zec L.last) ?_;rintro v M2 ⟨rfl,hle2⟩;have h2:=h1.to hle2
 refine zT ((Yc hle1 hle2)) ?_;refine zJ (zFZ h2.disk (zb L.last)) ?_;refine brn (fun e=>?_) (fun e=>?_)
 ·have e1:zcP D L.last=zgN D (zb L.last):=by have:=Zd0 e;omega
  refine zR ?_;rw[show syncL D L=(D,L,0) by simp[syncL,hf,hd,e1]];exact⟨es,rfl,h2⟩
 have e1:¬zcP D L.last=zgN D (zb L.last):=by have:=Zd1 e;omega
 refine zQ h2.self ?_;refine(zec L.last).mono ?_;rintro v M3 ⟨rfl,hle3⟩;have h3:=h2.to hle3
 refine zT (hle3) ?_;refine zM (zJH h3.disk.base.1 (ze6 L.last)) ?_;rintro v M4 ⟨es4,rfl,h4⟩;have h4':=h3.call h4
 refine zM (zib h4' _) ?_;rintro v M5 ⟨rfl,h5⟩;refine zR ?_;rw[show syncL D L=((zbz D (zb L.last)).1,zdw L (zbz D (zb L.last)).2,(zbz D (zb L.last)).2) by simp[syncL,hf,hd,e1]];exact⟨es4,rfl,h5⟩
end
section
variable {M M0:Mem} {g p b:Nat} {D:zf} {es:FsT}
theorem zjs (D:zf) (L:zaz):(syncL D L).2.1.last=L.last∧(syncL D L).2.1.first=L.first∧(syncL D L).2.1.size=L.size:=by
 unfold syncL;repeat' split
 all_goals exact⟨rfl,rfl,rfl⟩
theorem zCz {L:zaz} (h:LogAt M0 M g p b D es L) (hl:L.last≤99999) (hl1:1≤L.last):CallsM prog 206 [ptr g] M fun v M'=>∃ es',v = .tuple #[.int .i64 (beginL D L).2.2.1,.int .i64 (beginL D L).2.2.2]∧LogAt M0 M' g p b (beginL D L).1 es' (beginL D L).2.1:=by
 refine zqx oS ?_;refine zM (zwu h) ?_;rintro v M1 ⟨es1,rfl,h1⟩;obtain⟨l1,l2,l3⟩:=zjs D L;obtain⟨S,hS⟩:=oI (syncL D L);have hB:beginL D L=if S.2.2≠0 then (S.1,S.2.1,0,S.2.2) else if zcP S.1 L.last=0 then (S.1,S.2.1,L.last,0) else if L.last=99999 then (S.1,S.2.1,0,1) else (S.1,{ S.2.1 with last:=L.last+1 },L.last+1,0):=by rw[hS];rfl
 rw[←hS] at h1 l1 l2 l3 ⊢;refine brn (fun e=>?_) (fun e=>?_)
 ·have e1:S.2.2≠0:=by simpa using e
  refine zR ?_;rw[hB,if_pos e1];exact⟨es1,rfl,h1⟩
 have e1:¬S.2.2≠0:=by simpa using e
 refine zW h1.self ?_;rw[l1];refine(zov h1 L.last).mono ?_;rintro v M2 ⟨rfl,hle2⟩;have h2:=h1.to hle2
 refine brn (fun e=>?_) (fun e=>?_)
 ·have e2:zcP S.1 L.last=0:=by have:=Zd0 e;omega
  refine zW h2.self ?_;rw[hB,if_neg e1,if_pos e2,l1];exact⟨es1,rfl,h2⟩
 have e2:¬zcP S.1 L.last=0:=by have:=Zd1 e;omega
 refine zW h2.self ?_;rw[l1];refine brn (fun e=>?_) (fun e=>?_)
 ·have e3:L.last=99999:=Zd0 e;refine zR ?_;rw[hB,if_neg e1,if_neg e2,if_pos e3];exact⟨es1,rfl,h2⟩
 have e3:¬L.last=99999:=Zd1 e;refine zK h2.self ?_;rw[l1];refine obr (inR_i64 oM) ?_;refine on h2.self.cells ?_;refine ob oS ?_;have h3:=h2.set { S.2.1 with last:=L.last+1 }
 obtain⟨M3,hM3⟩:=oI (M2.setCells g 328 (zgO p { S.2.1 with last:=L.last+1 }));rw[←hM3] at h3;erw [←hM3];refine zW h3.self ?_;rw[hB,if_neg e1,if_neg e2,if_neg e3];exact⟨es1,rfl,h3⟩
def zbu (g p b:Nat) (es:FsT):Nat→Prop:=fun y=>y=g∨zav p b es y
theorem LogAt.full {L:zaz} (h:LogAt M0 M g p b D es L) {y:Nat} (hy:zbu g p b es y):M y≠none:=by
 rcases hy with rfl|hy
 ·have:=h.self;unfold Mem.has at this;rw[this];simp
 ·exact h.disk.at'.full hy
theorem LogAt.mono {M1:Mem} {L:zaz} (h:LogAt M1 M g p b D es L) (hle:M0.le M1):LogAt M0 M g p b D es L:=⟨h.disk.mono hle,h.self,by
 cases e:M0 g with
 | none=>rfl
 | some z=>have:=hle _ _ e;rw[h.fresh] at this;cases this⟩
theorem LogAt.base {L:zaz} (h:LogAt M0 M g p b D es L):LogAt (M.minus (zbu g p b es)) M g p b D es L∧M0.le (M.minus (zbu g p b es)):=by
 refine⟨⟨⟨Yab _ _,h.disk.at',h.disk.rel,h.disk.inv,fun y hy=>Yaq (.inr hy)⟩,h.self,Yaq (.inl rfl)⟩,Ybs h.disk.le fun y hy=>?_⟩;rcases hy with rfl|hy
 ·exact h.fresh
 ·exact h.disk.fresh y hy
theorem zAC {L:zaz} (h:LogAt M0 M g p b D es L) (hl:L.last≤99999) (hl1:1≤L.last) (hsz:0≤L.size∧L.size≤1048576) {a:Option Addr} {n c:Nat} {q:List UInt8} (hs:SrcOk M 1 a n (q.map zc)) (hn:n≤2097152) (hnc:n≤c) (hlen:zcP D L.last≤1048576) :
  CallsM prog 132 [ptr g,.slice a n c] M fun v M'=>∃ es',v = .int .i64 (z8 D L q).2.2∧LogAt M0 M' g p b (z8 D L q).1 es' (z8 D L q).2.1:=by
 refine zpk oS ?_;refine zJ (zua h.self) ?_;refine brn (fun e=>?_) (fun e=>?_)
 ·have hf:L.failed=true:=by
   cases hf:L.failed
   ·simp_all
   ·rfl
  refine zR ?_;rw[if_pos hf,show z8 D L q=(D,L,7) by simp[z8,hf]];exact⟨es,rfl,h⟩
 have hf:¬L.failed=true:=fun hf=>by simp_all
 refine zM (zIk hs hn hnc) ?_;rintro v M1 (⟨he,rfl,rfl⟩|⟨he,a',n',c',hn',rfl,hN⟩)
 ·refine brn_t (by simp_all) ?_;refine zR ?_;rw[show z8 D L q=(D,L,zgo q) by simp[z8,hf,he]];exact⟨es,rfl,h⟩
 have h1:=h.to hN.le;have hsB:=hN.src
 have hql:(zag q).length=8+q.length:=zd4 q;have hqn:=hs.maplen
 refine zW h1.self ?_;refine zJ (zmL h1.disk) ?_;cases hd:D.down
 case true=>
  refine zM (zib h1 9) ?_;rintro v M2 ⟨rfl,h2⟩;refine zR ?_;rw[show z8 D L q=(D,zdw L 9,9) by simp[z8,hf,he,hd]];exact⟨es,rfl,h2⟩
 refine zW h1.self ?_;refine(zov h1 L.last).mono ?_;rintro v M2 ⟨rfl,hle2⟩;have h2:=h1.to hle2
 have hA:¬(zbA D L (zag q).length).2.2≠0→z8 D L q=((zap (zbA D L (zag q).length).1 (zb (zbA D L (zag q).length).2.1.last) (zag q)).1,
  zdw (zbA D L (zag q).length).2.1 (zap (zbA D L (zag q).length).1 (zb (zbA D L (zag q).length).2.1.last) (zag q)).2,
  (zap (zbA D L (zag q).length).1 (zb (zbA D L (zag q).length).2.1.last) (zag q)).2):=fun e0=>by
  unfold z8;rw[if_neg hf,if_neg (by simp[he]),if_neg (by simp[hd]),if_neg e0]
 have hsM:SrcOk (M2.minus (zbu g p b es)) 1 a' n' ((zag q).map zc):=(hsB.le hle2).minus fun z hz hb=>h.full hb (hN.block hz).1
 refine brn (fun e=>?_) (fun e=>?_)
 ·have e1:0<zcP D L.last:=by have:=Zd0 e;omega
  refine zR ?_;refine on (h2.self.c1 rfl) ?_;refine obr (inR_i64 oM) ?_;refine brn (fun e=>?_) (fun e=>?_)
  ·have e2:L.size - zcP D L.last<(zag q).length:=by have:=Zd0 e;omega
   have hfu:zAB D L (zag q).length:=⟨e1,e2⟩
   have hRe:zbA D L (zag q).length=((beginL D L).1,(beginL D L).2.1,(beginL D L).2.2.2):=by unfold zbA;rw[if_pos hfu]
   refine zM (zCz h2.base.1 hl hl1) ?_;rintro v M3 ⟨es3,rfl,h3b⟩;have hs3:=hsM.le h3b.disk.le
   have h3:=h3b.mono h2.base.2;refine brn (fun e=>?_) (fun e=>?_)
   ·have e3:(beginL D L).2.2.2≠0:=by simpa using e
    refine zR ?_;rw[show z8 D L q=zbA D L (zag q).length by unfold z8;rw[if_neg hf,if_neg (by simp[he]),if_neg (by simp[hd]),if_pos (by simp_all)],hRe];exact⟨es3,rfl,h3⟩
   ·have e3:(beginL D L).2.2.2=0:=by simpa using e
    refine zQ h3.self ?_;refine(zec _).mono ?_;rintro v M4 ⟨rfl,hle4⟩;have h4:=h3.to hle4
    refine zT (hle4) ?_;refine zM (ztf h4.disk.base.1 (ze6 _) (hs3.le hle4)) ?_;rintro v M5 ⟨es5,rfl,h5⟩;have h5':=h4.call h5
    refine zM (zib h5' _) ?_;rintro v M6 ⟨rfl,h6⟩;refine zR ?_;rw[hA (by simp_all),hRe];exact⟨es5,rfl,h6⟩
  ·have e2:¬L.size - zcP D L.last<(zag q).length:=by have:=Zd1 e;omega
   have hRe:zbA D L (zag q).length=(D,L,0):=by unfold zbA;rw[if_neg (fun h=>e2 h.2)]
   have e3:(0:Int)=0:=rfl
   rename Mem=>M3
   have h3:=h2;have hs3:=hsB.le hle2
   refine zQ h3.self ?_;refine(zec _).mono ?_;rintro v M4 ⟨rfl,hle4⟩;have h4:=h3.to hle4
   refine zT (hle4) ?_;refine zM (ztf h4.disk.base.1 (ze6 _) (hs3.le hle4)) ?_;rintro v M5 ⟨es5,rfl,h5⟩;have h5':=h4.call h5
   refine zM (zib h5' _) ?_;rintro v M6 ⟨rfl,h6⟩;refine zR ?_;rw[hA (by simp_all),hRe];exact⟨es5,rfl,h6⟩
 ·have e1:¬0<zcP D L.last:=by have:=Zd1 e;omega
  have hRe:zbA D L (zag q).length=(D,L,0):=by unfold zbA;rw[if_neg (fun h=>e1 h.1)]
  have e3:(0:Int)=0:=rfl
  rename Mem=>M3
  have h3:=h2;have hs3:=hsB.le hle2
  refine zQ h3.self ?_;refine(zec _).mono ?_;rintro v M4 ⟨rfl,hle4⟩;have h4:=h3.to hle4
  refine zT (hle4) ?_;refine zM (ztf h4.disk.base.1 (ze6 _) (hs3.le hle4)) ?_;rintro v M5 ⟨es5,rfl,h5⟩;have h5':=h4.call h5
  refine zM (zib h5' _) ?_;rintro v M6 ⟨rfl,h6⟩;refine zR ?_;rw[hA (by simp_all),hRe];exact⟨es5,rfl,h6⟩
end
section
variable {M M0:Mem} {g p b:Nat} {D:zf} {es:FsT}
def zcB (s:ByteArray):Int:=if s.size=6∧((s.toList.getD 0 0).toNat:Int)=119 then ((bl s).drop 1).foldl (fun a c=>10*a+((c.toNat:Int) - 48)) 0 else 0
theorem zgf {s:ByteArray} (h:zhE s):zcB s=0:=if_neg fun ⟨a,b⟩=>h.elim (fun h=>h a) fun h=>h b
theorem zcd {k:Int} (h:¬(k<1∨99999<k)):zcB (zb k)=k:=by
 rw[zg1 h,zcB,if_pos ⟨rfl,by simp⟩];have hnn:0≤k:=by omega
 have a1:kk k 1=k / 10:=by show (kk k 0).tdiv 10=_;rw[Ya1 (zgd hnn 0)];rfl
 have a2:kk k 2=k / 100:=by show (kk k 1).tdiv 10=_;rw[Ya1 (zgd hnn 1),a1];omega
 have a3:kk k 3=k / 1000:=by show (kk k 2).tdiv 10=_;rw[Ya1 (zgd hnn 2),a2];omega
 have a4:kk k 4=k / 10000:=by show (kk k 3).tdiv 10=_;rw[Ya1 (zgd hnn 3),a3];omega
 have a0:kk k 0=k:=rfl;have d0:=zcr hnn 0
 have d1:=zcr hnn 1;have d2:=zcr hnn 2
 have d3:=zcr hnn 3;have d4:=zcr hnn 4
 show 10*(10*(10*(10*(10*0+(((dgB k 4).toNat:Int) - 48))+(((dgB k 3).toNat:Int) - 48))+(((dgB k 2).toNat:Int) - 48))+(((dgB k 1).toNat:Int) - 48))+(((dgB k 0).toNat:Int) - 48)=k;omega
theorem zj3 {j k:Int} (hj:¬(j<1∨99999<j)) (hk:¬(k<1∨99999<k)) (h:zb j=zb k):j=k:=by rw[←zcd hj,←zcd hk,h]
def NamesW (D:zf):Prop:=∀ f∈D.l,(∃ k:Int,¬(k<1∨99999<k)∧f.name=zb k)∨zhE f.name
theorem NamesW.num (h:NamesW D) {f:FileR} (hf:f∈D.l):(¬(zcB f.name<1∨99999<zcB f.name)∧f.name=zb (zcB f.name))∨(zhE f.name∧zcB f.name=0):=by
 rcases h f hf with ⟨k,h1,h2⟩|h1
 ·rw[h2,zcd h1];exact .inl ⟨h1,rfl⟩
 ·exact .inr ⟨h1,zgf h1⟩
def za7 (D:zf) (pick:Int→Bool):List Int:=(D.l.map fun f=>zcB f.name).filter fun k=>decide (0<k)&&pick k
theorem zoV {L:zaz} (h:LogAt M0 M g p b D es L) (hW:NamesW D) {gf:Nat} {cv:Value} {pick:Int→Bool}
  (hp:∀ M',M.le M'→∀ k:Int,CallsM prog gf [.int .i64 k,cv] M' fun v M''=>v = .bool (pick k)∧M'.le M'') :
  CallsM prog 295 [ptr g,.func (.func gf) #[] #[cv]] M fun v M'=>∃ a n c,v = .slice a n c∧n=(za7 D pick).length∧NewSl M 3 1 a n c ((za7 D pick).map zi) M':=by
 refine znw oS ?_;refine zW h.self ?_;refine(zqS h.disk.at' h.disk.rel h.disk.inv).mono ?_;rintro v M1 ⟨na,nc,rfl,hNm⟩;have hln:=h.disk.inv.len
 refine zak (σ:=Nat×Mem×Option Addr×Nat×List Int) [15,5] (fun y=>[(15,.int .i64 y.1),(5,.slice y.2.2.1 y.2.2.2.2.length y.2.2.2.1)]) (fun _=>[]) (fun y=>y.2.1)
  (fun|⟨i,Mc,a,c,out⟩=>i≤D.l.length∧NewSl M1 3 1 a out.length c (out.map zi) Mc∧out=((D.l.take i).map fun f=>zcB f.name).filter (fun k=>decide (0<k)&&pick k)∧out.length≤i) (fun y=>D.l.length - y.1) ⟨0,M1,none,0,[]⟩ ⟨by omega,Yaw M1 3 1,by simp,by simp⟩ zS ?_
 rintro ⟨i,Mc,a,c,out⟩ ⟨hi,hN,hout,hol⟩;refine brn (fun e=>?_) (fun e=>?_)
 ·have hlt:i<D.l.length:=by have:=Zd0 e;dsimp only at this;omega
  obtain⟨hk1,b1,o1,e1,hr1⟩:=(hNm.src.le hN.le).at (i:=i) hlt;have hx:D.l[i]? = some D.l[i]:=Yb hlt
  have hnm:(D.l.map (·.name))[i]=D.l[i].name:=by simp
  rw[hnm] at hr1;have hnum:=hW.num (Yao hx)
  have htk:((D.l.take (i+1)).map fun f=>zcB f.name).filter (fun k=>decide (0<k)&&pick k)=((D.l.take i).map fun f=>zcB f.name).filter (fun k=>decide (0<k)&&pick k)++(if (decide (0<zcB D.l[i].name)&&pick (zcB D.l[i].name))=true then [zcB D.l[i].name] else []):=by
   rw[Y1,hx,Yv,Yce];congr 1;cases hpk:(decide (0<zcB D.l[i].name)&&pick (zcB D.l[i].name))<;>simp[hpk]
  generalize D.l[i]=f at *;rcases hnum with ⟨hnk,hnn⟩|⟨hno,hn0⟩
  rotate_left
  ·rw[hn0,if_neg oS,Yt] at htk;refine ob (by omega) ?_;refine atp e1 ?_;refine on hr1 ?_;refine zN (zxY hno) ?_;refine obr (inR_i64 (by omega)) ?_;exact⟨⟨i+1,Mc,a,c,out⟩,⟨by omega,hN,by simp_all,by omega⟩,by omega,zS⟩
  generalize hkk:zcB f.name=k at *;rw[hnn] at hr1;have hkp:decide (0<k)=true:=decide_eq_true oM
  rw[hkp,Bool.true_and] at htk;refine ob (by omega) ?_;refine atp e1 ?_;refine on hr1 ?_;refine zM (zCv k hnk) ?_;rintro v M2 ⟨rfl,hle2⟩;refine brn_t (decide_eq_true oM) ?_;refine zM (hp M2 (Yc hNm.le (Yc hN.le hle2)) k) ?_;rintro v M3 ⟨rfl,hle3⟩;have hN3:=(hN.up hle2).up hle3
  cases hpk:pick k
  case true=>
   rw[hpk,if_pos rfl] at htk;refine zR ?_;refine zb8 M1 _ hN3 (by grind) (by simp[maxLen];omega) oC fun a4 c4 M4 hN4=>?_
   refine obr (inR_i64 (by omega)) ?_;refine⟨⟨i+1,M4,a4,c4,out++[k]⟩,⟨by omega,by simpa using hN4,by simp_all,by simp;omega⟩,by omega,?_⟩;rw[Yi];exact zS
  case false=>
   rw[hpk,if_neg oD,Yt] at htk;refine zR ?_;refine obr (inR_i64 (by omega)) ?_;exact⟨⟨i+1,M3,a,c,out⟩,⟨by omega,hN3,by simp_all,by omega⟩,by omega,zS⟩
 ·have hge:i=D.l.length:=by have:=Zd1 e;dsimp only at this;omega
  subst hge;rw[Yaj] at hout;refine zR ?_;exact⟨a,out.length,c,rfl,by rw[hout];rfl,by rw[show za7 D pick=out from hout.symm];exact hN.mono hNm.le⟩
end
section
variable {M M0:Mem} {g p b:Nat} {D:zf} {es:FsT}
def removeAll (D:zf):List Int→zf×Int
 | []=>(D,0)
 | k::r=>if (z7 D (zb k)).2≠0 then z7 D (zb k) else removeAll (z7 D (zb k)).1 r
theorem zjt {L:zaz} (h:LogAt M0 M g p b D es L) {a:Option Addr} {n c:Nat} {ks:List Int} (hs:SrcOk M0 1 a n (ks.map zi)) (hn:n≤1000000) :
  CallsM prog 294 [ptr g,.slice a n c] M fun v M'=>∃ es',v = .int .i64 (removeAll D ks).2∧LogAt M0 M' g p b (removeAll D ks).1 es' L:=by
 refine zpt oS ?_;have hkl:=hs.maplen
 refine zak (σ:=Nat×Mem×zf×FsT) [10] (fun y=>[(10,.int .i64 y.1)]) (fun _=>[]) (fun y=>y.2.1)
  (fun|⟨i,Mc,Dc,ec⟩=>i≤n∧LogAt M0 Mc g p b Dc ec L∧removeAll D ks=removeAll Dc (ks.drop i)) (fun y=>n - y.1) ⟨0,M,D,es⟩ ⟨by omega,h,rfl⟩ zS ?_
 rintro ⟨i,Mc,Dc,ec⟩ ⟨hi,hL,hrm⟩;refine brn (fun e=>?_) (fun e=>?_)
 ·have hlt:i<n:=by have:=Zd0 e;dsimp only at this;omega
  obtain⟨hk1,b1,o1,e1,hr1⟩:=(hs.le hL.disk.le).at hlt;rw[Y2 hk1] at hrm;generalize ks[i]=k at *;refine ob (by omega) ?_;refine atp e1 ?_;refine on hr1 ?_;refine zW hL.self ?_;refine(zec k).mono ?_;rintro v M1 ⟨rfl,hle1⟩;have h1:=hL.to hle1
  refine zT (hle1) ?_;refine zM (zyU h1.disk.base.1 (ze6 k)) ?_;rintro v M2 ⟨es2,rfl,h2⟩;have h2':=h1.call h2
  refine brn (fun e=>?_) (fun e=>?_)
  ·have e2:(z7 Dc (zb k)).2≠0:=by simpa using e
   refine zR ?_;rw[hrm,removeAll,if_pos e2];exact⟨es2,rfl,h2'⟩
  ·have e2:¬(z7 Dc (zb k)).2≠0:=by simpa using e
   rw[removeAll,if_neg e2] at hrm;refine zR ?_;refine obr (inR_i64 (by omega)) ?_;exact⟨⟨i+1,M2,_,es2⟩,⟨by omega,h2',hrm⟩,by omega,zS⟩
 ·have hge:i=n:=by have:=Zd1 e;dsimp only at this;omega
  subst hge;rw[Yaf oM,removeAll] at hrm;refine zR ?_;rw[hrm];exact⟨ec,rfl,hL⟩
theorem zEr {L:zaz} {bx:Nat} (hb:M.has bx 151 [ptr g]) (h:M.has g 328 (zgO p L)):∀ M',M.le M'→∀ k:Int,CallsM prog 296 [.int .i64 k,ptr bx] M' fun v M''=>v = .bool (decide (k<L.first))∧M'.le M'':=fun M' hle k=>by
 refine zpu oS ?_;refine zK ((hb.le hle)) ?_;refine zW ((h.le hle)) ?_;exact⟨rfl,Ya _⟩
theorem zqT {bx:Nat} {n:Int} (hb:M.has bx 3 [.int .i64 n]):∀ M',M.le M'→∀ k:Int,CallsM prog 299 [.int .i64 k,ptr bx] M' fun v M''=>v = .bool (decide (n≤k))∧M'.le M'':=fun M' hle k=>by
 refine zpv oS ?_;refine zW ((hb.le hle)) ?_;exact⟨rfl,Ya _⟩
end
section
variable {M:Mem}
theorem zlk {B:Mem} {a:Option Addr} {n c:Nat} {ks:List Int} (h:NewSl B 3 1 a n c (ks.map zi) M) (hn:n≤1000000) :
  CallsM prog 300 [.slice a n c] M fun v M'=>v = .tuple #[]∧NewSl B 3 1 a n c (ks.reverse.map zi) M'∧Mem.keep (blk a) M M':=by
 refine zjj oS ?_;have hkl:=h.src.maplen
 refine zR ?_;refine obr (inR_i64 (by omega)) ?_
 refine zak (σ:=Nat×Mem×List Int) [2,3] (fun y=>[(2,.int .i64 y.1),(3,.int .i64 (n - 1 - y.1))]) (fun _=>[]) (fun y=>y.2.1)
  (fun|⟨i,Mc,cur⟩=>2*i≤n+1∧NewSl B 3 1 a n c (cur.map zi) Mc∧Mem.keep (blk a) M Mc∧∀ x y,x+y+1=n→cur[x]? = if x<i∨y<i then ks[y]? else ks[x]?) (fun y=>n - y.1) ⟨0,M,ks⟩ ⟨by omega,h,Yas _ _,fun x y _=>by simp⟩ ?_ ?_
 ·dsimp only;rw[show (n:Int) - 1 - ((0:Nat):Int)=n - 1 by omega];exact zS
 rintro ⟨i,Mc,cur⟩ ⟨hi,hN,hk,hc⟩;have hcl:=hN.src.maplen
 refine brn (fun e=>?_) (fun e=>?_)
 ·have hlt:2*i+1<n:=by have:=Zd0 e;dsimp only at this;omega
  obtain⟨j,hj⟩:=oI (n - 1 - i);have hjI:(n:Int) - 1 - (i:Int)=(j:Int):=by omega
  obtain⟨hi1,b1,o1,e1,hr1⟩:=hN.src.at (i:=i) oM;obtain⟨hj1,b2,o2,e2,hr2⟩:=hN.src.at (i:=j) oM;rw[e1] at e2;simp only[Y3,Addr.mk.injEq,and_true] at e2;obtain⟨rfl,rfl⟩:=e2;obtain⟨b3,cs3,e3,hb3,hcell3,hlen3,hst3⟩:=hN.store1 (j:=i) oM;rw[e1] at e3;simp only[Y3,Addr.mk.injEq,and_true] at e3;obtain⟨rfl,rfl⟩:=e3;obtain⟨hN4,hk4⟩:=hst3 cur[j];obtain⟨M4,hM4⟩:=oI (Mc.setCells b1 3 (zd cs3 (0+i*1) [zi cur[j]]));rw[←hM4] at hN4 hk4;obtain⟨b5,cs5,e5,hb5,hcell5,hlen5,hst5⟩:=hN4.store1 (j:=j) oM;rw[e1] at e5;simp only[Y3,Addr.mk.injEq,and_true] at e5;obtain⟨rfl, -⟩:=e5;obtain⟨hN6,hk6⟩:=hst5 cur[i];dsimp only;rw[hjI];refine ob (by omega) ?_;refine atp e1 ?_;refine on hr2 ?_;refine ob (by omega) ?_;refine atp e1 ?_;refine on hr1 ?_;refine ob (by omega) ?_;refine atp e1 ?_;refine zR ?_;refine on hcell3 ?_;refine ob (by simp_all) ?_;erw [←hM4];refine zR ?_;refine ob (by omega) ?_;refine atp e1 ?_;refine zR ?_;refine on hcell5 ?_;refine ob (by simp_all) ?_;refine zR ?_;refine obr (inR_i64 (by omega)) ?_;refine obr (inR_i64 (by omega)) ?_;refine⟨⟨i+1,_,(cur.set i cur[j]).set j cur[i]⟩,⟨by omega,hN6,Yac hk (Yac hk4 hk6),fun x y hxy=>?_⟩,by omega,?_⟩
  ·have h1:=hc x y hxy;have h2:=hc i j oM
   have h3:=hc j i oM;rw[Yb hi1] at h2;rw[Yb hj1] at h3;rw[if_neg oM] at h2 h3;by_cases ex:x=j
   ·grind
   ·grind
  ·dsimp only;rw[show (n:Int) - 1 - ((i+1:Nat):Int)=(j:Int) - 1 by omega];exact zS
 ·have hge:n≤2*i+1:=by have:=Zd1 e;dsimp only at this;omega
  have hrev:cur=ks.reverse:=by
   apply Yb1;intro x;by_cases hx:x<n
   ·have h1:=hc x (n - 1 - x) oM;rw[h1,List.getElem?_reverse oM,hkl];split
    ·rfl
    ·grind
   ·simp_all
  refine zR ?_;exact⟨rfl,hrev▸hN,hk⟩
end
section
variable {M M0:Mem} {g p b:Nat} {D:zf} {es:FsT}
def zab:Nat→zf→Int→Int→List (List UInt8)→zf×Int×Int×List (List UInt8)×Int
 | 0,D,next,last,all=>(D,next,last,all,0)
 | f+1,D,next,last,all=>
  if 99999<next∨(zao D (zb next)).2=4 then (D,next,last,all,0)
  else if (zao D (zb next)).2≠0 then (D,next,last,[],(zao D (zb next)).2)
  else if zah (zay (bl (zao D (zb next)).1))<(bl (zao D (zb next)).1).length then
   (if (zcp D (zb next) (zah (zay (bl (zao D (zb next)).1)))).2≠0 then ((zcp D (zb next) (zah (zay (bl (zao D (zb next)).1)))).1,next+1,next,[],(zcp D (zb next) (zah (zay (bl (zao D (zb next)).1)))).2)
   else ((zcp D (zb next) (zah (zay (bl (zao D (zb next)).1)))).1,next+1,next,all++zay (bl (zao D (zb next)).1),0))
  else zab f D (next+1) next (all++zay (bl (zao D (zb next)).1))
def zbI (D:zf) (L:zaz):zf×zaz×List (List UInt8)×Int:=
 let r:=removeAll D (za7 D fun k=>decide (k<L.first))
 if r.2≠0 then (r.1,L,[],r.2) else
 let o:=zab (100000 - L.first).toNat r.1 L.first L.last []
 if o.2.2.2.2≠0 then (o.1,{ L with last:=o.2.2.1 },[],o.2.2.2.2) else
 let q:=removeAll o.1 (za7 o.1 fun k=>decide (o.2.1≤k)).reverse
 (q.1,{ L with last:=o.2.2.1 },o.2.2.2.1,q.2)
theorem NamesW.l {D':zf} (h:NamesW D) (e:∀ f∈D'.l,f∈D.l∨(∃ k:Int,¬(k<1∨99999<k)∧f.name=zb k)∨zhE f.name):NamesW D':=fun f hf=>by
 rcases e f hf with hf|hf
 ·exact h f hf
 ·exact hf
theorem zll {k:Int} (h:zaM D (zb k)=0):¬(k<1∨99999<k):=fun hk=>by
 have:=(zxZ h).2;have e:zb k=ByteArray.empty:=by unfold zb;rw[if_pos hk]
 rw[e] at this;exact absurd this oD
theorem NamesW.remove (h:NamesW D) (s:ByteArray):NamesW (z7 D s).1:=by
 unfold z7;split
 ·exact h
 ·exact h.l fun f hf => .inl (withoutR_mem.1 hf).1
theorem NamesW.cut (h:NamesW D) (k:Int) (n:Int):NamesW (zcp D (zb k) n).1:=by
 unfold zcp;split
 ·exact h
 ·rename_i h0;split
  ·exact h
  ·have hk:=zll (zcl (by simpa using h0)).1;refine h.l fun f hf=>?_
   rcases withR_mem.1 hf with rfl|⟨hf,_⟩
   ·grind
   ·simp_all
theorem NamesW.removeAll:∀ {ks:List Int} {D:zf},NamesW D→NamesW (removeAll D ks).1
 | [],_,h=>h
 | k::r,D,h=>by
  rw[Go.Proofs.YtlgbofpennelhaaGreat.removeAll];split
  ·exact h.remove _
  ·exact NamesW.removeAll (h.remove _)
theorem LogAt.keepS {L:zaz} (h:LogAt M0 M g p b D es L) {S:Nat→Prop} {M':Mem} (hk:Mem.keep S M M') (hS:∀ y,S y→M0 y=none∧¬zbu g p b es y):LogAt M0 M' g p b D es L:=
 ⟨⟨hk.le h.disk.le fun y hy=>(hS y hy).1,h.disk.at'.mono fun y o hy ho=>hk y o (fun e=>(hS y e).2 (.inr hy)) ho,h.disk.rel,h.disk.inv,h.disk.fresh⟩,hk _ _ (fun e=>(hS g e).2 (.inl rfl)) h.self,h.fresh⟩
def AllAt (M0 M:Mem) (a:Option Addr) (n c:Nat) (all:List (List UInt8)):Prop:=NewEls M0 37 1 a n c (BytesW M) all M
theorem AllAt.up {a:Option Addr} {n c:Nat} {all:List (List UInt8)} (h:AllAt M0 M a n c all) {M':Mem} (hle:M.le M'):AllAt M0 M' a n c all:=(NewEls.up h hle).imp fun _ _ _ hx=>hx.le hle
theorem AllAt.app {Z:Mem} {S:Nat→Prop} {a a2:Option Addr} {n c n2:Nat} {all more:List (List UInt8)} (h:AllAt M0 Z a n c all) (hZ:Z.le M) (hS1:∀ y,S y→Z y=none) (hS2:∀ y,S y→M y≠none) (h2:Elems Z 1 a2 n2 (BytesW Z) more) {k:Option Addr→Nat→Mem→Prop} (hb:n+n2≤4000000000000)
  (hk:∀ a' c' M',AllAt M0 (M'.minus S) a' (n+n2) c' (all++more)→Mem.keep (blk a) M M'→(∀ y,blk a y→M0 y=none∧¬S y)→(∀ y o,Z y=some o→¬blk a y→(M'.minus S) y=some o)→k a' c' M'):zaj M 1 a2 n2 fun vs=>zZ 37 1 24 a n c n2 vs M k:=by
 unfold Elems at h2;obtain⟨css2,s2,l2,m2,u2,r2⟩:=h2;refine zb2 (s2.le hZ) ?_;unfold AllAt NewEls at h;obtain⟨css,s1,l1,m1,u1,r1⟩:=h;have one:∀ {cs:List Value} {x:List UInt8},BytesW Z cs x→∀ u∈cs,u.oneCell'=true:=fun ⟨_,_,_,e,_⟩ u hu=>by rw[e] at hu;simp at hu;subst hu;rfl
 have hblk:∀ y,blk a y→M0 y=none∧¬S y:=fun y ⟨q,hq,e⟩=>by
  obtain⟨h3,cs,h4⟩:=s1.block hq;rw[e] at h3 h4;refine⟨h3,fun hs=>?_⟩;have:=hS1 y hs
  unfold Mem.has at h4;rw[h4] at this;cases this
 have hm0:M0.le (M.minus (blk a)):=Ybs (Yc s1.le hZ) fun y hy=>(hblk y hy).1
 refine ziQ (M.minus (blk a)) _ (s1.rebase hZ) oM (by simp[maxLen];omega) (fun u hu=>?_) fun a' c' M' hN hkp=>?_
 ·obtain⟨cs,hcs,hu⟩:=List.mem_flatten.1 hu;obtain⟨i,hi,rfl⟩:=Ybm hcs;exact one (r2 i _ _ (Yb hi) (Yb oM)) u hu
 ·have hold:∀ y o,Z y=some o→¬blk a y→(M'.minus S) y=some o:=fun y o hy hny=>by
   unfold Mem.minus;rw[if_neg fun hs=>by simp_all];exact hkp y o hny (hZ y o hy)
  have mv:∀ {cs:List Value} {x:List UInt8},BytesW Z cs x→BytesW (M'.minus S) cs x:=fun ⟨pa,pn,pc,e,hw⟩=>⟨pa,pn,pc,e,hw.mono fun q o hq ho=>hold _ _ ho fun ⟨q2,hq2,e2⟩=>by
   obtain⟨cs1,hh1⟩:=(s1.block hq2).2;obtain⟨cs2,hh2⟩:=hw.block hq;rw[e2] at hh1
   exact absurd (hh1.inj hh2).1 oD⟩
  have hN2:NewSl M0 37 1 a' (n+n2) c' (css.flatten++css2.flatten) (M'.minus S):=by
   obtain⟨w0,w1,w2,w3⟩:=newSl_iff.1 hN;refine newSl_iff.2 ⟨fun y o hy=>?_,w1,w2,w3.imp id fun ⟨b1,cs,ha,hb1,hh,hr⟩=>⟨b1,cs,ha,?_,?_,hr⟩⟩
   ·exact hold y o (s1.le y o hy) fun hbl=>by simp_all
   ·cases e:M0 b1 with
    | none=>rfl
    | some o=>rw[hm0 b1 o e] at hb1;cases hb1
   ·unfold Mem.has at hh ⊢;unfold Mem.minus;rw[if_neg fun hs=>?_]
    ·exact hh
    ·rcases Classical.em (blk a b1) with hbl|hbl
     ·simp_all
     ·unfold Mem.minus at hb1;rw[if_neg hbl] at hb1;exact hS2 b1 hs hb1
  refine hk a' c' M' ?_ hkp hblk hold;unfold AllAt NewEls;refine⟨css++css2,by rw[Ydi];exact hN2,by simp_all,by simp_all,fun cs hcs=>?_,fun i cs x hi hx=>?_⟩
  ·grind
  ·grind
end
section
variable {M M0:Mem} {g p b:Nat} {D:zf} {es:FsT}
theorem LogAt.z {L:zaz} (_h:LogAt M0 M g p b D es L) {M':Mem} {D':zf} {es':FsT} {L':zaz} (h':LogAt (M.minus (zbu g p b es)) M' g p b D' es' L'):(M.minus (zbu g p b es)).le (M'.minus (zbu g p b es')):=h'.base.2
theorem LogAt.zle {L:zaz} (h:LogAt M0 M g p b D es L) {M':Mem} (hle:M.le M'):(M.minus (zbu g p b es)).le (M'.minus (zbu g p b es)):=(h.base.1.to hle).base.2
structure OpS where
 f:Nat
 next:Int
 M:Mem
 D:zf
 es:FsT
 last:Int
 a:Option Addr
 c:Nat
 all:List (List UInt8)
structure OpI (B0:Mem) (g p b bq:Nat) (L:zaz) (R:zf×Int×Int×List (List UInt8)×Int) (y:OpS):Prop where
 fu:y.f=(100000 - y.next).toNat∧1≤y.next∧y.next≤100000
 log:LogAt B0 y.M g p b y.D y.es { L with last:=y.last }
 bx:(y.M.minus (zbu g p b y.es)).has bq 151 [ptr g]
 all':AllAt B0 (y.M.minus (zbu g p b y.es)) y.a y.all.length y.c y.all
 nm:NamesW y.D
 eq:R=zab y.f y.D y.next y.last y.all
 len:(y.all.length:Int)+(100000 - y.next)*1048576≤104857600000
set_option maxRecDepth 10000 in
theorem zEs {L:zaz} (h:LogAt M0 M g p b D es L) (hW:NamesW D) (hf:1≤L.first∧L.first≤99999) (_hfl:L.failed=false) :
  CallsM prog 233 [ptr g] M fun v M'=>∃ es' a n c,v = .tuple #[.slice a n c,.int .i64 (zbI D L).2.2.2]∧LogAt M0 M' g p b (zbI D L).1 es' (zbI D L).2.1 ∧
   ((zbI D L).2.2.2=0→AllAt M0 (M'.minus (zbu g p b es')) a n c (zbI D L).2.2.1):=by
 refine zrM oS ?_;obtain⟨h0,hM0⟩:=h.base;obtain⟨B0,hB0⟩:=oI (M.minus (zbu g p b es));rw[←hB0] at h0 hM0;refine zR ?_;refine new (fun bq hbl=>?_);replace hbl:M bq=none:=hbl;have hle1:M.le (M.setCells bq 151 [ptr g]):=Yw hbl
 have hb1:(M.setCells bq 151 [ptr g]).has bq 151 [ptr g]:=Yg;obtain⟨M1,hM1⟩:=oI (M.setCells bq 151 [ptr g]);rw[←hM1] at hle1 hb1;erw [←hM1];have h1:=h0.to hle1
 refine(zoV h1 hW (zEr hb1 h1.self)).mono ?_;rintro v M2 ⟨a2,n2,c2,rfl,hn2,hN2⟩;have hle2:=hN2.le
 refine ob (hb1.le hle2) ?_;refine grow_same (Yc hle1 hle2) ?_;refine zR ?_;have h2:=h1.to hle2
 have hs2:SrcOk (M2.minus (zbu g p b es)) 1 a2 n2 ((za7 D fun k=>decide (k<L.first)).map zi):=hN2.src.minus fun q hq hb=>h1.full hb (hN2.block hq).1
 have hbl2:(M2.minus (zbu g p b es)).has bq 151 [ptr g]:=by
  have:=hb1.le hle2;unfold Mem.has at this ⊢;unfold Mem.minus;rw[if_neg fun hb=>h0.full hb hbl];exact this
 have hsl:(za7 D fun k=>decide (k<L.first)).length≤64:=by
  have:=h.disk.inv.len;refine Yz (Yat _ _) ?_;simpa using this
 refine(zjt h2.base.1 hs2 oM).mono ?_;rintro v M3 ⟨es3,rfl,h3⟩;have hz23:=h2.z h3
 obtain⟨r,hr⟩:=oI (removeAll D (za7 D fun k=>decide (k<L.first)))
 have hO:zbI D L=if r.2≠0 then (r.1,L,[],r.2) else
  if (zab (100000 - L.first).toNat r.1 L.first L.last []).2.2.2.2≠0 then ((zab (100000 - L.first).toNat r.1 L.first L.last []).1,{ L with last:=(zab (100000 - L.first).toNat r.1 L.first L.last []).2.2.1 },[],(zab (100000 - L.first).toNat r.1 L.first L.last []).2.2.2.2)
  else ((removeAll (zab (100000 - L.first).toNat r.1 L.first L.last []).1 (za7 (zab (100000 - L.first).toNat r.1 L.first L.last []).1 fun k=>decide ((zab (100000 - L.first).toNat r.1 L.first L.last []).2.1≤k)).reverse).1,
   { L with last:=(zab (100000 - L.first).toNat r.1 L.first L.last []).2.2.1 },(zab (100000 - L.first).toNat r.1 L.first L.last []).2.2.2.1,
   (removeAll (zab (100000 - L.first).toNat r.1 L.first L.last []).1 (za7 (zab (100000 - L.first).toNat r.1 L.first L.last []).1 fun k=>decide ((zab (100000 - L.first).toNat r.1 L.first L.last []).2.1≤k)).reverse).2):=by rw[hr];rfl
 rw[←hr] at h3 ⊢;have hWr:NamesW r.1:=hr▸hW.removeAll
 replace h3:LogAt B0 M3 g p b r.1 es3 L:=h3.mono h2.base.2;have hbl3:=hbl2.le hz23
 clear hbl2 hz23 hs2 h2 hN2 hle2 hsl;refine brn (fun e=>?_) (fun e=>?_)
 ·have e1:r.2≠0:=by simpa using e
  refine zR ?_;rw[hO,if_pos e1];exact⟨es3,none,0,0,rfl,h3.mono hM0,fun h=>absurd h e1⟩
 have e1:¬r.2≠0:=by simpa using e
 rw[if_neg e1] at hO;refine zK ((hbl3.le (Yab _ _))) ?_;refine zK h3.self ?_;obtain⟨R,hR⟩:=oI (zab (100000 - L.first).toNat r.1 L.first L.last []);rw[←hR] at hO
 refine zak (σ:=OpS) [5] (fun y=>[(5,.slice y.a y.all.length y.c)]) (fun y=>[.gone bq,.live 3 [.v (.int .i64 y.next)]]) (fun y=>y.M) (OpI B0 g p b bq L R) (fun y=>y.f) ⟨(100000 - L.first).toNat,L.first,M3,r.1,es3,L.last,none,0,[]⟩
  ⟨⟨rfl,by dsimp only;omega,by dsimp only;omega⟩,h3,hbl3,(NewEls.nil _ _ _ _).mono h3.base.2,hWr,hR,by dsimp only [List.length_nil];omega⟩ zS ?_
 rintro ⟨f,nx,Mc,Dc,ec,la,aa,ac,all⟩ ⟨⟨hfu,hnx1,hnx2⟩,hL,hbx,hA,hWc,hE,hlen⟩;dsimp only at hfu hnx1 hnx2 hL hbx hA hWc hE hlen;have hbM:=hbx.le (Yab Mc (zbu g p b ec))
 refine zK hbM ?_;refine zW hL.self ?_;refine(zec nx).mono ?_;rintro v M4 ⟨rfl,hle4⟩;have hL4:=hL.to hle4
 refine zT (hle4) ?_;refine zM (zFY hL4.disk (ze6 nx)) ?_;rintro v M5 ⟨pa,pn,pc,rfl,hpn,hpN⟩;have hL5:=hL4.to hpN.le
 have hz5:=hL.zle (Yc hle4 hpN.le);have hbx5:=hbx.le hz5
 have hA5:=hA.up hz5;have hp5:SrcOk (M5.minus (zbu g p b ec)) 1 pa pn ((bl (zao Dc (zb nx)).1).map zc):=hpN.src.minus fun q hq hb=>hL4.full hb (hpN.block hq).1
 have hb5:=hbx5.le (Yab M5 (zbu g p b ec));have hus:=hL.disk.inv.used
 refine brn (fun e=>?_) (fun e=>?_)
 ·have e2:99999<nx:=Zd0 e
  have hRe:R=(Dc,nx,la,all,0):=by
   rw[hE];cases f with
   | zero=>rfl
   | succ f=>rw[zab,if_pos (.inl e2)]
  rw[if_neg (by rw[hRe];simp)] at hO;have hbMe:=hbx5.le (Yab M5 (zbu g p b ec))
  refine zW hbMe ?_;refine new (fun b2 hb2=>?_);replace hb2:M5 b2=none:=hb2;have hle6:M5.le (M5.setCells b2 3 [.int .i64 nx]):=Yw hb2
  have hb6:(M5.setCells b2 3 [.int .i64 nx]).has b2 3 [.int .i64 nx]:=Yg;obtain⟨M6,hM6⟩:=oI (M5.setCells b2 3 [.int .i64 nx]);rw[←hM6] at hle6 hb6;erw [←hM6];have hL6:=hL5.to hle6
  refine(zoV hL6 hWc (zqT hb6)).mono ?_;rintro v M7 ⟨a7,n7,c7,rfl,hn7,hN7⟩
  have hsl7:n7≤64:=by
   have:=hL5.disk.inv.len;rw[hn7];refine Yz (Yat _ _) ?_;simpa using this
  refine zM (zlk hN7 oM) ?_;rintro v M8 ⟨rfl,hN8, -⟩;have hL8:=hL6.to hN8.le
  have hs8:SrcOk (M8.minus (zbu g p b ec)) 1 a7 n7 ((za7 Dc fun k=>decide (nx≤k)).reverse.map zi):=hN8.src.minus fun q hq hb=>hL6.full hb (hN8.block hq).1
  have hz8:=hL5.zle (Yc hle6 hN8.le);have hb8:=(hbx5.le hz8).le (Yab M8 (zbu g p b ec))
  refine zW hb8 ?_;refine(zjt hL8.base.1 hs8 oM).mono ?_;rintro v M9 ⟨es9,rfl,h9⟩;refine zR ?_;rw[hO,hRe];exact⟨es9,aa,all.length,ac,rfl,h9.mono (Yc hM0 hL8.base.2),fun _=>((hA5.up hz8).up (hL8.z h9)).mono hM0⟩
 have e2:¬99999<nx:=Zd1 e;refine zR ?_;refine brn (fun e=>?_) (fun e=>?_)
 ·have e3:(zao Dc (zb nx)).2=4:=Zd0 e
  have hRe:R=(Dc,nx,la,all,0):=by
   rw[hE];cases f with
   | zero=>rfl
   | succ f=>rw[zab,if_pos (.inr e3)]
  rw[if_neg (by rw[hRe];simp)] at hO;have hbMe:=hbx5.le (Yab M5 (zbu g p b ec))
  refine zW hbMe ?_;refine new (fun b2 hb2=>?_);replace hb2:M5 b2=none:=hb2;have hle6:M5.le (M5.setCells b2 3 [.int .i64 nx]):=Yw hb2
  have hb6:(M5.setCells b2 3 [.int .i64 nx]).has b2 3 [.int .i64 nx]:=Yg;obtain⟨M6,hM6⟩:=oI (M5.setCells b2 3 [.int .i64 nx]);rw[←hM6] at hle6 hb6;erw [←hM6];have hL6:=hL5.to hle6
  refine(zoV hL6 hWc (zqT hb6)).mono ?_;rintro v M7 ⟨a7,n7,c7,rfl,hn7,hN7⟩
  have hsl7:n7≤64:=by
   have:=hL5.disk.inv.len;rw[hn7];refine Yz (Yat _ _) ?_;simpa using this
  refine zM (zlk hN7 oM) ?_;rintro v M8 ⟨rfl,hN8, -⟩;have hL8:=hL6.to hN8.le
  have hs8:SrcOk (M8.minus (zbu g p b ec)) 1 a7 n7 ((za7 Dc fun k=>decide (nx≤k)).reverse.map zi):=hN8.src.minus fun q hq hb=>hL6.full hb (hN8.block hq).1
  have hz8:=hL5.zle (Yc hle6 hN8.le);have hb8:=(hbx5.le hz8).le (Yab M8 (zbu g p b ec))
  refine zW hb8 ?_;refine(zjt hL8.base.1 hs8 oM).mono ?_;rintro v M9 ⟨es9,rfl,h9⟩;refine zR ?_;rw[hO,hRe];exact⟨es9,aa,all.length,ac,rfl,h9.mono (Yc hM0 hL8.base.2),fun _=>((hA5.up hz8).up (hL8.z h9)).mono hM0⟩
 have e3:¬(zao Dc (zb nx)).2=4:=Zd1 e;obtain⟨f',rfl⟩:∃ f',f=f'+1:=⟨f - 1,by omega⟩
 rw[zab,if_neg oM] at hE;refine zR ?_;refine brn (fun e=>?_) (fun e=>?_)
 ·have e4:(zao Dc (zb nx)).2≠0:=by simpa using e
  rw[if_pos e4] at hE;rw[if_pos (by rw[hE];exact e4)] at hO;refine zR ?_;rw[hO,hE];exact⟨ec,none,0,0,rfl,hL5.mono hM0,fun h=>absurd h e4⟩
 have e4:¬(zao Dc (zb nx)).2≠0:=by simpa using e
 rw[if_neg e4] at hE;refine zW hb5 ?_;refine on hL5.self.cells ?_;refine ob oS ?_;have hL6:=hL5.base.1.set { L with last:=nx }
 obtain⟨M6,hM6⟩:=oI (M5.setCells g 328 (zgO p { L with last:=nx }));rw[←hM6] at hL6;erw [←hM6];have hz6:=hL5.z hL6
 have hb6:=hbx5.le hz6;have hA6:=hA5.up hz6
 have hp6:=hp5.le hL6.disk.le;refine zV ?_
 have hrow:(bl (zao Dc (zb nx)).1).length≤1048576:=by
  have h1:zat Dc (zb nx)=0:=by
   apply Ybe;intro hh;have:(zao Dc (zb nx)).2=zat Dc (zb nx):=by unfold zao;rw[if_pos hh]
   exact e4 (by rw[this];exact hh)
  have h2:(zao Dc (zb nx)).1=(zq Dc (zb nx)).all:=by unfold zao;rw[if_neg (by simp[h1])]
  have h3:=(zci hL.disk.inv.sort (zcl h1).2).2;rw[h2,FileR.all_size];omega
 have hp6z:SrcOk (M6.minus (zbu g p b ec)) 1 pa pn ((bl (zao Dc (zb nx)).1).map zc):=hp5.le hz6;refine((zGW hp6z oM (by have:=(newSl_iff.1 hpN).2.2.1;omega)).frame (Yab _ _)).mono ?_;rintro v M7 ⟨A7,⟨sa,sn,sc,rfl,hsN⟩,hA7,hrest⟩;obtain⟨row,hrw⟩:=oI (bl (zao Dc (zb nx)).1);rw[←hrw] at hE hrow hsN hpn ⊢;obtain⟨hi1,hi2,hi3⟩:=zou row.length row (Yd _);have hsl:=hsN.len
 have hsn:9*(zay row).length≤zah (zay row):=by
  clear hsN hE hi1 hsl;generalize zay row=ps at *;clear hi3
  induction ps with
  | nil=>simp
  | cons q qs ih=>
   have h1:=(hi2 q oS).1;have h2:=ih fun z hz=>hi2 z (by simp[hz])
   simp only[zah,Yq,Ybb,Ym] at h2 ⊢;omega
 have hle7:M6.le M7:=fun y o hy=>by
  by_cases hz:(M6.minus (zbu g p b ec)) y=none
  ·exact(hrest y o hz hy).1
  ·obtain⟨o2,ho2⟩:=Yba.1 hz;have:=Yab _ _ y o2 ho2
   rw[hy] at this;cases this;exact hA7 y o (hsN.le y o ho2)
 have hL7:=hL6.to hle7
 have hS1:∀ y,zbu g p b ec y→A7 y=none:=fun y hy=>by
  obtain⟨o,ho⟩:=Yba.1 (hL6.full hy);exact(hrest y o (Yaq hy) ho).2
 refine(hA6.up hsN.le).app hA7 hS1 (fun y hy=>hL7.full hy) hsN.elems oM fun a8 c8 M8 hA8 hk8 hab hold8=>?_
 have hL8:=(hL7.mono hL5.base.2).keepS hk8 hab
 have hb8:(M8.minus (zbu g p b ec)).has bq 151 [ptr g]:=hold8 _ _ (hb6.le hsN.le) fun ⟨q,hq,e⟩=>by
  obtain⟨-, cs,hh⟩:=NewEls.block hA6 hq;rw[e] at hh;exact absurd (hh.inj hb6).1 oD
 have hbM8:=hb8.le (Yab M8 (zbu g p b ec));have el:all.length+sn=(all++zay row).length:=by rw[Yi,hsl]
 dsimp only;rw[el] at hA8 ⊢;refine zR ?_;have hpl:((pn:Nat):Int)=row.length:=by rw[hpn]
 refine brn (fun e=>?_) (fun e=>?_)
 ·have e5:zah (zay row)<row.length:=by have:=Zd0 e;omega
  rw[if_pos e5] at hE;refine zK hbM8 ?_;refine on (hL8.self.c1 rfl) ?_;refine on (hbM8.c1 rfl) ?_;refine zW hL8.self ?_;refine(zec nx).mono ?_;rintro v M9 ⟨rfl,hle9⟩;have hL9:=hL8.to hle9
  refine zT (hle9) ?_;refine zM (zKT hL9.disk.base.1 (ze6 nx) (zah (zay row))) ?_;rintro v M10 ⟨es10,rfl,h10⟩;have hL10:=hL9.base.1.call h10
  have hz10:=Yc (hL8.zle hle9) (hL9.z hL10);replace hL10:=hL10.mono hL9.base.2;have hb10:=hb8.le hz10
  have hA10:=hA8.up hz10;have hW10:=hWc.cut nx (zah (zay row))
  obtain⟨C,hC⟩:=oI (zcp Dc (zb nx) (zah (zay row)));rw[←hC] at hE hL10 hW10 ⊢;refine zR ?_;refine brn (fun e=>?_) (fun e=>?_)
  ·have e6:C.2≠0:=by simpa using e
   rw[if_pos e6] at hE;rw[if_pos (by rw[hE];exact e6)] at hO;refine zR ?_;rw[hO,hE];exact⟨es10,none,0,0,rfl,hL10.mono hM0,fun h=>absurd h e6⟩
  have e6:¬C.2≠0:=by simpa using e
  rw[if_neg e6] at hE;rw[if_neg (by rw[hE];simp)] at hO;have hbMe:=hb10.le (Yab M10 (zbu g p b es10))
  refine zW hbMe ?_;refine new (fun b2 hb2=>?_);replace hb2:M10 b2=none:=hb2;have hle6:M10.le (M10.setCells b2 3 [.int .i64 (nx+1)]):=Yw hb2
  have hb6:(M10.setCells b2 3 [.int .i64 (nx+1)]).has b2 3 [.int .i64 (nx+1)]:=Yg;obtain⟨M6,hM6⟩:=oI (M10.setCells b2 3 [.int .i64 (nx+1)]);rw[←hM6] at hle6 hb6;erw [←hM6];have hL6:=hL10.to hle6
  refine(zoV hL6 hW10 (zqT hb6)).mono ?_;rintro v M7 ⟨a7,n7,c7,rfl,hn7,hN7⟩
  have hsl7:n7≤64:=by
   have:=hL10.disk.inv.len;rw[hn7];refine Yz (Yat _ _) ?_;simpa using this
  refine zM (zlk hN7 oM) ?_;rintro v M8 ⟨rfl,hN8, -⟩;have hL8:=hL6.to hN8.le
  have hs8:SrcOk (M8.minus (zbu g p b es10)) 1 a7 n7 ((za7 C.1 fun k=>decide ((nx+1)≤k)).reverse.map zi):=hN8.src.minus fun q hq hb=>hL6.full hb (hN8.block hq).1
  have hz8:=hL10.zle (Yc hle6 hN8.le);have hb8:=(hb10.le hz8).le (Yab M8 (zbu g p b es10))
  refine zW hb8 ?_;refine(zjt hL8.base.1 hs8 oM).mono ?_;rintro v M9 ⟨es9,rfl,h9⟩;refine zR ?_;rw[hO,hE];exact⟨es9,a8,(all++zay row).length,c8,rfl,h9.mono (Yc hM0 hL8.base.2),fun _=>((hA10.up hz8).up (hL8.z h9)).mono hM0⟩
 have e5:¬zah (zay row)<row.length:=by have:=Zd1 e;omega
 rw[if_neg e5] at hE;refine zR ?_;refine⟨⟨f',nx+1,M8,Dc,ec,nx,a8,c8,all++zay row⟩,⟨⟨by dsimp only;omega,by dsimp only;omega,by dsimp only;omega⟩,hL8,hb8,hA8,hWc,hE,?_⟩,by dsimp only;omega,zS⟩;dsimp only;rw[Yi];omega
end
section
variable {M M0:Mem} {g p b:Nat} {D:zf} {es:FsT}
def L0 (first size:Int):zaz:=⟨first,first,size,false⟩
def zyW (M0 M':Mem) (p b:Nat) (D:zf) (first size:Int) (v:Value):Prop:=
 ((first<1∨99999<first∨size<16∨1048576<size)∧v = .tuple #[.pointer none,.slice none 0 0,.int .i64 1]∧∃ es',FreshD M0 M' p b D es') ∨
 (¬(first<1∨99999<first∨size<16∨1048576<size)∧D.down=true∧v = .tuple #[.pointer none,.slice none 0 0,.int .i64 9]∧∃ es',FreshD M0 M' p b D es') ∨
 (¬(first<1∨99999<first∨size<16∨1048576<size)∧D.down=false∧(zbI D (L0 first size)).2.2.2≠0∧v = .tuple #[.pointer none,.slice none 0 0,.int .i64 (zbI D (L0 first size)).2.2.2]∧∃ es',FreshD M0 M' p b (zbI D (L0 first size)).1 es') ∨
 (¬(first<1∨99999<first∨size<16∨1048576<size)∧D.down=false∧(zbI D (L0 first size)).2.2.2=0∧∃ g es' a n c,v = .tuple #[ptr g,.slice a n c,.int .i64 0] ∧
  LogAt M0 M' g p b (zbI D (L0 first size)).1 es' (zbI D (L0 first size)).2.1∧AllAt M0 (M'.minus (zbu g p b es')) a n c (zbI D (L0 first size)).2.2.1)
theorem zG1 (h:FreshD M0 M p b D es) (hW:NamesW D) (first size:Int):CallsM prog 154 [ptr p,.int .i64 first,.int .i64 size] M fun v M'=>zyW M0 M' p b D first size v:=by
 refine zxF oS ?_;refine zR ?_;refine brn (fun e=>?_) (fun e=>?_)
 ·refine zR ?_;exact .inl ⟨by simp_all,rfl,es,h⟩
 have e1:=Zd1 e;refine zR ?_;refine brn (fun e=>?_) (fun e=>?_)
 ·refine zR ?_;exact .inl ⟨by simp_all,rfl,es,h⟩
 have e2:=Zd1 e;refine zR ?_;refine brn (fun e=>?_) (fun e=>?_)
 ·refine zR ?_;exact .inl ⟨by simp_all,rfl,es,h⟩
 have e3:=Zd1 e;refine zR ?_;refine brn (fun e=>?_) (fun e=>?_)
 ·refine zR ?_;exact .inl ⟨by simp_all,rfl,es,h⟩
 have e4:=Zd1 e;have hn:¬(first<1∨99999<first∨size<16∨1048576<size):=by omega
 refine zJ (zmL h) ?_;cases hd:D.down
 case true=>
  refine zR ?_;exact .inr (.inl ⟨hn,hd,rfl,es,h⟩)
 refine zR ?_;refine new (fun g hg=>?_);replace hg:M g=none:=hg;have hle1:M.le (M.setCells g 328 (zgO p (L0 first size))):=Yw hg
 have hs1:(M.setCells g 328 (zgO p (L0 first size))).has g 328 (zgO p (L0 first size)):=Yg;obtain⟨M1,hM1⟩:=oI (M.setCells g 328 (zgO p (L0 first size)));rw[←hM1] at hle1 hs1;erw [←hM1]
 have h1:LogAt M0 M1 g p b D es (L0 first size):=⟨h.to hle1,hs1,by
  cases e:M0 g with
  | none=>rfl
  | some o=>rw[h.le _ _ e] at hg;cases hg⟩
 refine(zEs h1 hW (by show 1≤first∧first≤99999;omega) rfl).mono ?_;rintro v M2 ⟨es2,a,n,c,rfl,h2,hA⟩;refine brn (fun e=>?_) (fun e=>?_)
 ·have e5:(zbI D (L0 first size)).2.2.2≠0:=by simpa using e
  refine zR ?_;exact .inr (.inr (.inl ⟨hn,hd,e5,rfl,es2,h2.disk⟩))
 ·have e5:(zbI D (L0 first size)).2.2.2=0:=by simpa using e
  refine zR ?_;exact .inr (.inr (.inr ⟨hn,hd,e5,g,es2,a,n,c,rfl,h2,hA e5⟩))
theorem wlL {D:zf} (h:InvD D) (k:Int):zcP D k≤1048576:=by
 have hu:=h.used
 have key:∀ s,(zao D s).1.size≤za0 D.l:=fun s=>by
  unfold zao;split
  ·simp
  ·rename_i g;have h1:=(zcl (by simpa using g)).2
   have:=(zci h.sort h1).2;rw[all_size];omega
 unfold zcP;split
 ·unfold zgN;split
  ·rename_i f hf;have:=(zci h.sort hf).2
   omega
  ·omega
 ·grind
end
section
variable {M M0:Mem} {p b:Nat} {D:zf} {es:FsT}
def zar (k:Int):ByteArray:=if k<1∨99999<k then ByteArray.empty else ⟨#[115]⟩++zge k
theorem zfT {k:Int} (h:¬(k<1∨99999<k)):zar k=⟨#[115,dgB k 4,dgB k 3,dgB k 2,dgB k 1,dgB k 0]⟩:=by
 unfold zar;rw[if_neg h];rfl
theorem zwv {k:Int} (h:¬(k<1∨99999<k)):zhE (zar k):=by
 right;rw[zfT h];simp[ByteArray.toList,ByteArray.toList.loop,ByteArray.size,ByteArray.get!]
theorem zID:zhE ⟨#[116]⟩ := .inl oD
theorem zEt (k:Int):CallsM prog 151 [.int .i64 k] M fun v M'=>v = .string (zar k)∧M.le M':=by
 refine zrE oS ?_;refine zM (zec k) ?_;rintro v M1 ⟨rfl,hle1⟩;by_cases hk:k<1∨99999<k
 ·have e1:zb k=ByteArray.empty:=by unfold zb;rw[if_pos hk]
  have e2:zar k=ByteArray.empty:=by unfold zar;rw[if_pos hk]
  rw[e1,e2];refine brn_f rfl ?_;refine zR ?_;exact⟨rfl,hle1⟩
 ·have e1:zb k=zkG k:=zg1 hk;have e2:zar k=⟨#[115]⟩++zge k:=by unfold zar;rw[if_neg hk]
  rw[e1,e2];have hne:¬zkG k=ByteArray.empty:=fun h=>by have:=congrArg ByteArray.size h;exact absurd this (by show ¬(6:Nat)=0;decide)
  refine brn_t (by simp[hne]) ?_;refine zR ?_;refine ob (by show (0:Int)≤1∧(1:Int)≤((6:Nat):Int)∧((6:Nat):Int)≤((6:Nat):Int);decide) ?_;have htl:(zkG k).extract (1:Int).toNat (((zkG k).size:Nat):Int).toNat=zge k:=rfl
  rw[htl];refine ob (by show (1:Nat)+5≤_;decide) ?_;refine zR ?_;exact⟨rfl,hle1⟩
theorem zIE {c:Nat} {T0:TypeId} {cs:List Value} (hc:M.has c T0 cs) (hd:cs[1]? = some (ptr p)) (h:FreshD M0 M p b D es) (s:ByteArray):CallsM prog 147 [ptr c,.string s] M fun v M'=>v = .bool (D.l.any fun f=>decide (f.name=s))∧M.le M':=by
 refine zk6 oS ?_;refine zR ?_;refine on (hc.c1 hd) ?_;refine zM (zqS h.at' h.rel h.inv) ?_;rintro v M1 ⟨na,nc,rfl,hNm⟩;have hln:=h.inv.len
 refine zR ?_;refine zem (σ:=Nat) [13] (fun i=>[(13,.int .i64 i)]) (fun i=>i≤D.l.length∧(D.l.take i).any (fun f=>decide (f.name=s))=false) (fun i=>D.l.length - i) 0 ⟨by omega,by simp⟩ zS ?_;rintro i ⟨hi,hall⟩;refine brn (fun e=>?_) (fun e=>?_)
 ·have hlt:i<D.l.length:=by have:=Zd0 e;omega
  obtain⟨hk1,b1,o1,e1,hr1⟩:=hNm.src.at (i:=i) hlt;have hnm:(D.l.map (·.name))[i]=D.l[i].name:=by simp
  rw[hnm] at hr1
  have htk:(D.l.take (i+1)).any (fun f=>decide (f.name=s))=decide (D.l[i].name=s):=by
   rw[Y1,Yb hlt,List.any_append,hall];simp
  have hmem:D.l[i]∈D.l:=Yai hlt;generalize D.l[i]=f at *;refine ob (by omega) ?_;refine atp e1 ?_;refine on hr1 ?_;refine brn (fun g=>?_) (fun g=>?_)
  ·refine zR ?_;refine⟨?_,hNm.le⟩;congr 1;rw[eq_comm,Yb7];exact⟨f,hmem,g⟩
  ·refine zR ?_;refine obr (inR_i64 (by omega)) ?_;exact⟨i+1,⟨by omega,by simp_all⟩,by omega,zS⟩
 ·have hge:i=D.l.length:=by have:=Zd1 e;omega
  rw[hge,Yaj] at hall;refine zR ?_;exact⟨by rw[hall],hNm.le⟩
end
section
variable {M M0:Mem} {p b:Nat} {D:zf} {es:FsT}
theorem zsc {k:Int} (h:¬(k<1∨99999<k)):(((zar k).toList.getD 0 0).toNat:Int)=115:=by
 rw[zfT h];simp[ByteArray.toList,ByteArray.toList.loop,ByteArray.size,ByteArray.get!]
def NamesC (D:zf):Prop:=∀ f∈D.l,(∃ k:Int,¬(k<1∨99999<k)∧f.name=zb k)∨(∃ k:Int,¬(k<1∨99999<k)∧f.name=zar k)∨f.name=⟨#[116]⟩
theorem NamesC.w (h:NamesC D):NamesW D:=fun f hf=>by
 rcases h f hf with h1|⟨k,h1,h2⟩|h1
 ·simp_all
 ·exact .inr (h2▸zwv h1)
 ·exact .inr (h1▸zID)
def zgP (s:ByteArray):Int:=if s.size=6∧((s.toList.getD 0 0).toNat:Int)=115 then ((bl s).drop 1).foldl (fun a c=>10*a+((c.toNat:Int) - 48)) 0 else 0
theorem zsd {k:Int} (h:¬(k<1∨99999<k)):zgP (zar k)=k:=by
 have h1:zgP (zar k)=((bl (zar k)).drop 1).foldl (fun a c=>10*a+((c.toNat:Int) - 48)) 0:=if_pos ⟨by rw[zfT h];rfl,zsc h⟩;have h2:=zcd h
 rw[zg1 h,zcB,if_pos ⟨rfl,by omega⟩] at h2;rw[h1,zfT h];exact h2
theorem zww {s:ByteArray} (h:s.size≠6∨((s.toList.getD 0 0).toNat:Int)≠115):zgP s=0:=if_neg fun ⟨a,b⟩=>h.elim (fun h=>h a) fun h=>h b
def zgC (D:zf):List Int:=(D.l.map fun f=>zgP f.name).filter fun k=>decide (0<k)
theorem NamesC.num (h:NamesC D) {f:FileR} (hf:f∈D.l):(∃ k:Int,¬(k<1∨99999<k)∧f.name=zar k∧zgP f.name=k)∨((f.name.size≠6∨((f.name.toList.getD 0 0).toNat:Int)≠115)∧zgP f.name=0):=by
 rcases h f hf with ⟨k,h1,h2⟩|⟨k,h1,h2⟩|h1
 ·have:f.name.size≠6∨((f.name.toList.getD 0 0).toNat:Int)≠115 := .inr (by rw[h2,zg1 h1,zAy];decide);exact .inr ⟨this,zww this⟩
 ·exact .inl ⟨k,h1,h2,by rw[h2,zsd h1]⟩
 ·have:f.name.size≠6∨((f.name.toList.getD 0 0).toNat:Int)≠115 := .inl (by rw[h1];decide);exact .inr ⟨this,zww this⟩
set_option maxRecDepth 10000 in
theorem zEu {c:Nat} {T0:TypeId} {cs:List Value} (hc:M.has c T0 cs) (hd:cs[1]? = some (ptr p)) (h:FreshD M0 M p b D es) (hW:NamesC D) :
  CallsM prog 149 [ptr c] M fun v M'=>∃ a n cc,v = .slice a n cc∧n=(zgC D).length∧NewSl M 3 1 a n cc ((zgC D).map zi) M':=by
 refine zjQ oS ?_;refine zR ?_;refine on (hc.c1 hd) ?_;refine zM (zqS h.at' h.rel h.inv) ?_;rintro v M1 ⟨na,nc,rfl,hNm⟩;have hln:=h.inv.len
 refine zR ?_
 refine zak (σ:=Nat×Mem×Option Addr×Nat×List Int) [15,3] (fun y=>[(15,.int .i64 y.1),(3,.slice y.2.2.1 y.2.2.2.2.length y.2.2.2.1)]) (fun _=>[]) (fun y=>y.2.1)
  (fun|⟨i,Mc,a,c,out⟩=>i≤D.l.length∧NewSl M1 3 1 a out.length c (out.map zi) Mc∧out=((D.l.take i).map fun f=>zgP f.name).filter (fun k=>decide (0<k))∧out.length≤i) (fun y=>D.l.length - y.1) ⟨0,M1,none,0,[]⟩ ⟨by omega,Yaw M1 3 1,by simp,by simp⟩ zS ?_
 rintro ⟨i,Mc,a,c,out⟩ ⟨hi,hN,hout,hol⟩;refine brn (fun e=>?_) (fun e=>?_)
 ·have hlt:i<D.l.length:=by have:=Zd0 e;dsimp only at this;omega
  obtain⟨hk1,b1,o1,e1,hr1⟩:=(hNm.src.le hN.le).at (i:=i) hlt;have hx:D.l[i]? = some D.l[i]:=Yb hlt
  have hnm:(D.l.map (·.name))[i]=D.l[i].name:=by simp
  rw[hnm] at hr1;have hnum:=hW.num (Yao hx)
  have htk:((D.l.take (i+1)).map fun f=>zgP f.name).filter (fun k=>decide (0<k))=((D.l.take i).map fun f=>zgP f.name).filter (fun k=>decide (0<k))++(if decide (0<zgP D.l[i].name)=true then [zgP D.l[i].name] else []):=by
   rw[Y1,hx,Yv,Yce];congr 1;cases hpk:decide (0<zgP D.l[i].name)<;>simp[hpk]
  generalize D.l[i]=f at *;rcases hnum with ⟨k,hk,hnn,hkk⟩|⟨hno,hn0⟩
  rotate_left
  ·rw[hn0,if_neg oS,Yt] at htk;refine ob (by omega) ?_;refine atp e1 ?_;refine on hr1 ?_;refine brn (fun g=>?_) (fun g=>?_)
   ·refine zR ?_;refine obr (inR_i64 (by omega)) ?_;exact⟨⟨i+1,Mc,a,c,out⟩,⟨by omega,hN,by simp_all,by omega⟩,by omega,zS⟩
   ·have g1:f.name.size=6:=by have:(f.name.size:Int)=6:=by simpa using g
                              omega
    refine ob (by omega) ?_;refine brn_t (by simp_all) ?_;refine zR ?_;refine obr (inR_i64 (by omega)) ?_;exact⟨⟨i+1,Mc,a,c,out⟩,⟨by omega,hN,by simp_all,by omega⟩,by omega,zS⟩
  have hkp:decide (0<k)=true:=decide_eq_true oM;rw[hkk,hkp,if_pos rfl] at htk;rw[hnn,zfT hk] at hr1;refine ob (by omega) ?_;refine atp e1 ?_;refine on hr1 ?_;have hhd:(((⟨#[115,dgB k 4,dgB k 3,dgB k 2,dgB k 1,dgB k 0]⟩:ByteArray).toList.getD 0 0).toNat:Int)=115:=by rw[←zfT hk];exact zsc hk
  have hnn0:0≤k:=by omega
  have hdlt:∀ j,(dgB k j).toNat<128:=fun j=>by have:=zcr hnn0 j;omega
  have htl:(⟨#[115,dgB k 4,dgB k 3,dgB k 2,dgB k 1,dgB k 0]⟩:ByteArray).extract (1:Int).toNat ((((⟨#[115,dgB k 4,dgB k 3,dgB k 2,dgB k 1,dgB k 0]⟩:ByteArray).size:Nat):Int)).toNat=zge k:=rfl;refine brn_f (by rfl) ?_;refine ob (by show (0:Int)≤0∧(0:Int)<((6:Nat):Int);decide) ?_;refine brn_f (by simp) ?_;refine ob (by show (0:Int)≤1∧(1:Int)≤((6:Nat):Int)∧((6:Nat):Int)≤((6:Nat):Int);decide) ?_;refine new (fun b2 hb2=>?_);replace hb2:Mc b2=none:=hb2;refine zak (σ:=Nat) [6] (fun j=>[(6,.int .i64 (zdl k j))]) (fun _=>[]) (fun j=>Mc.upd b2 (.stringIter (zge k) j)) (fun j=>j≤5) (fun j=>5 - j) 0 oM zS ?_;intro j hj;have hsit:(Mc.upd b2 (.stringIter (zge k) j)).sitAt b2=some (zge k,j):=by simp[Mem.sitAt,Mem.upd]
  refine on hsit ?_;refine⟨fun hlt5=>⟨?_,?_⟩,fun hno=>?_⟩
  ·have hi5:j<5:=hlt5
   match j,hi5 with
   | 0,_=>exact hdlt 4
   | 1,_=>exact hdlt 3
   | 2,_=>exact hdlt 2
   | 3,_=>exact hdlt 1
   | 4,_=>exact hdlt 0
  ·have hi5:j<5:=hlt5;have hb:48≤((dgB k (4 - j)).toNat:Int)∧((dgB k (4 - j)).toNat:Int)≤57:=by have:=zcr hnn0 (4 - j);omega
   have ha:0≤zdl k j∧zdl k j≤99999:=by
    obtain⟨c1,c2,c3,c4,c5⟩:=zmI hnn0 oM
    match j,hi5 with
    | 0,_=>show (0:Int)≤0∧(0:Int)≤99999;omega
    | 1,_=>omega
    | 2,_=>omega
    | 3,_=>omega
    | 4,_=>omega
   have hget:((zge k).get! j)=dgB k (4 - j):=by
    match j,hi5 with
    | 0,_=>rfl
    | 1,_=>rfl
    | 2,_=>rfl
    | 3,_=>rfl
    | 4,_=>rfl
   rw[hget];refine brn_t rfl ?_;refine obr (inR_i64 oM) ?_;refine obr (zyT oM) ?_;refine obr (inR_i64 (by rw[zmH oM];omega)) ?_;refine⟨j+1,by omega,by omega,?_⟩;refine⟨(by repeat' first|exact True.intro|refine⟨rfl,?_⟩),(by repeat' first|exact True.intro|refine⟨rfl,?_⟩),?_,rfl⟩;dsimp only;rw[Mem.upd_upd];exact Ya _
  ·have hi5:j=5:=by have:¬j<5:=hno;omega
   subst hi5;obtain⟨-, -, -, -, c5⟩:=zmI hnn0 oM;refine brn_f rfl ?_;refine zR ?_;rw[c5];refine(zEt k).mono ?_;rintro v M3 ⟨rfl,hle3⟩;rw[zfT hk];refine brn_t oS ?_;have hN3:=(hN.up (Ya8 hb2)).up hle3
   refine zR ?_;refine zb8 M1 _ hN3 (by grind) (by simp[maxLen];omega) oC fun a4 c4 M4 hN4=>?_
   refine obr (inR_i64 (by omega)) ?_;refine⟨⟨i+1,M4,a4,c4,out++[k]⟩,⟨by omega,by simpa using hN4,by simp_all,by simp;omega⟩,by omega,?_⟩;rw[Yi];exact zS
 ·have hge:i=D.l.length:=by have:=Zd1 e;dsimp only at this;omega
  subst hge;rw[Yaj] at hout;refine zR ?_;exact⟨a,out.length,c,rfl,by rw[hout];rfl,by rw[show zgC D=out from hout.symm];exact hN.mono hNm.le⟩
end
section
variable {M M0:Mem} {p b:Nat} {D:zf} {es:FsT}
structure CuW where
 snap:Int
 failed:Bool
 spent:Bool
@[reducible] def zhH (sp p:Nat) (g:Value) (W:CuW):List Value:=[ptr sp,ptr p,g,.int .i64 W.snap,.bool W.failed,.bool W.spent]
def zir (W:CuW) (e:Int):CuW:={ W with failed:=W.failed||decide (e=9) }
theorem zub {c sp:Nat} {g:Value} {W:CuW} (h:M.has c 153 (zhH sp p g W)):CallsM prog 68 [ptr c] M fun v M'=>v = .int .i64 (if W.failed=true then 7 else 0)∧M=M':=by
 refine zjO oS ?_;obtain⟨sn,fl,sp2⟩:=W;cases fl
 ·refine zR ?_;refine on (h.c1 (o:=4) rfl) ?_;refine zR ?_;exact⟨rfl,rfl⟩
 ·refine zR ?_;refine on (h.c1 (o:=4) rfl) ?_;refine zR ?_;exact⟨rfl,rfl⟩
theorem zEv {c sp:Nat} {g:Value} {W:CuW} (h:M.has c 153 (zhH sp p g W)) (e:Int):CallsM prog 131 [ptr c,.int .i64 e] M fun v M'=>v = .int .i64 e∧M'=M.setCells c 153 (zhH sp p g (zir W e)):=by
 refine zkh oS ?_;obtain⟨sn,fl,sp2⟩:=W;cases fl
 ·refine zR ?_;refine on (h.c1 (o:=4) rfl) ?_;refine zR ?_;refine on h.cells ?_;refine ob oS ?_;refine zR ?_;exact⟨rfl,rfl⟩
 ·refine zR ?_;refine on (h.c1 (o:=4) rfl) ?_;refine zR ?_;refine on h.cells ?_;refine ob oS ?_;refine zR ?_;exact⟨rfl,rfl⟩
def zbE (D:zf):zf×Int:=if (D.l.any fun f=>decide (f.name=⟨#[116]⟩))=true then z7 D ⟨#[116]⟩ else (D,0)
end
end Go.Proofs.YtlgbofpennelhaaGreat
namespace Go.Proofs.YtlgbofpennelhaaGreat
open Go Go.Vm
section
variable {D:zf} {L:zaz} {last:Int} {l:List FileR} {put:List (List UInt8)} {safe:Nat}
def zEw (l:List FileR) (last:Int) (parts cur:List (List UInt8)) (safe:Nat):Prop:=
 (zh l (zb last)=none∧cur=[]∧safe≤parts.length)∨∃ s t j,zh l (zb last)=some ⟨zb last,s,t⟩∧bl s++bl t=za6 cur∧j≤cur.length∧zah (cur.take j)≤s.size∧safe≤parts.length+j
structure zL5 (last:Int) (l:List FileR) (put:List (List UInt8)) (safe:Nat):Prop where
 ok:∀ q∈put,zcH q
 last1:1≤last∧last≤99999
 names:∀ f∈l,∃ k:Int,1≤k∧k≤last∧f.name=zb k
 seg:∃ (parts:List (List (List UInt8))) (cur:List (List UInt8)),(parts.length:Int)+1=last∧put=parts.flatten++cur ∧
  (∀ (i:Nat) q,parts[i]? = some q→∃ s:ByteArray,zh l (zb ((i:Int)+1))=some ⟨zb ((i:Int)+1),s,.empty⟩∧bl s=za6 q)∧zEw l last parts.flatten cur safe
theorem zlH {j k:Int} (hj:1≤j∧j≤99999) (hk:1≤k∧k≤99999) (h:j≠k):zb j≠zb k:=fun e=>h (zj3 oM oM e)
theorem zd5:bl .empty=[]:=rfl
theorem zuc {b:ByteArray} (h:b.size=0):b = .empty:=zlF (by simp_all)
def zvc (l:List FileR) (last:Int):Prop:=∀ f,zh l (zb last)=some f→f.tail = .empty
theorem zju {D:zf} {s:ByteArray} (hd:D.down=false) (hn:zbZ s=true):(zao D s).1=match zh D.l s with|some f=>f.all|none => .empty:=by
 have hr:zat D s=if zh D.l s=none then 4 else 0:=by unfold zat zaM;simp[hd,hn]
 unfold zao;rw[hr];cases hf:zh D.l s with
 | none=>simp
 | some f=>simp[zq,hf]
theorem zcI {k:Int} (h:1≤k∧k≤99999):zbZ (zb k)=true:=by
 have hn:¬(k<1∨99999<k):=by omega
 rw[zg1 hn];have hnn:0≤k:=by omega
 have d0:=zcr hnn 0;have d1:=zcr hnn 1
 have d2:=zcr hnn 2;have d3:=zcr hnn 3
 have d4:=zcr hnn 4;unfold zbZ;rw[Yl,Yaz];refine⟨rfl,fun c hc=>?_⟩;have hc':c∈[119,dgB k 4,dgB k 3,dgB k 2,dgB k 1,dgB k 0]:=hc
 simp only[Yp,Yco,or_false] at hc';apply decide_eq_true;rcases hc' with rfl|rfl|rfl|rfl|rfl|rfl
 ·simp
 all_goals right;left;omega
theorem zCA (D:zf) (L:zaz):(syncL D L).2.1.last=L.last:=(zjs D L).1
end
section
variable {D:zf} {L:zaz} {last:Int} {l:List FileR} {put:List (List UInt8)} {safe:Nat}
theorem zCB (h:InvD D) (L:zaz):InvD (syncL D L).1:=by
 unfold syncL;repeat' split
 all_goals first|exact h|exact zot h _
theorem zAD (h:InvD D) (L:zaz):InvD (beginL D L).1:=by
 unfold beginL;repeat' split
 all_goals exact zCB h L
theorem zCC {q:List UInt8} (h:¬zgo q≠0):zcH q:=by
 unfold zgo at h;unfold zcH;split at h
 ·simp at h
 ·omega
theorem zgD {D:zf} {s:ByteArray} {f:FileR} (hd:D.down=false) (hn:zbZ s=true) (hf:zh D.l s=some f):zao D s=(f.all,0)∧zat D s=0∧zq D s=f:=by
 have hr:zat D s=0:=by unfold zat zaM;simp[hd,hn,hf]
 have hfi:zq D s=f:=by unfold zq;rw[hf];rfl
 refine⟨?_,hr,hfi⟩;unfold zao;rw[if_neg (by simp[hr]),hfi]
theorem zud {D:zf} {s:ByteArray} (hd:D.down=false) (hn:zbZ s=true) (hf:zh D.l s=none):(zao D s).2=4:=by
 have hr:zat D s=4:=by unfold zat zaM;simp[hd,hn,hf]
 unfold zao;rw[if_pos (by omega),hr]
theorem zx1 {α:Type} {p:α→Bool}:∀ {l:List α},(∀ x∈l,p x=false)→l.filter p=[]
 | [],_=>rfl
 | x::l,h=>by simp_all
theorem zCD {D:zf} {pick:Int→Bool} (h:∀ f∈D.l,0<zcB f.name→pick (zcB f.name)=false):za7 D pick=[]:=by
 unfold za7;refine zx1 fun x hx=>?_
 obtain⟨f,hf,rfl⟩:=Yj.1 hx;by_cases h0:0<zcB f.name
 ·simp_all
 ·simp_all
end
section
variable {D E:zf}
structure PowW (D:zf):Prop where
 inv:InvD D
 nm:NamesW D
 down:D.down=false
 left:D.left = -1
def okK (k:Int):Prop:=1≤k∧k≤99999
theorem PowW.read (h:PowW D) {k:Int} (hk:okK k) {f:FileR} (hf:zh D.l (zb k)=some f):zao D (zb k)=(f.all,0)∧zat D (zb k)=0∧zq D (zb k)=f:=zgD h.down (zcI hk) hf
theorem zis (h:PowW D) (l:List FileR):zbb D l=⟨D.limit,l, -1,false⟩:=by unfold zbb;rw[h.left];rfl
theorem PowW.cut (h:PowW D) {k:Int} (hk:okK k) {f:FileR} (hf:zh D.l (zb k)=some f) {m:Nat} (hm:m≤f.all.size) :
  (zcp D (zb k) m).2=0∧PowW (zcp D (zb k) m).1∧∀ n,zh (zcp D (zb k) m).1.l n=if n=zb k then some ⟨zb k,f.all.extract 0 m,.empty⟩ else zh D.l n:=by
 obtain⟨-, h2,h3⟩:=h.read hk hf
 have e:zcp D (zb k) m=(zbb D (za5 D.l ⟨zb k,f.all.extract 0 m,.empty⟩),0):=by
  unfold zcp;rw[if_neg (by simp[h2]),h3,if_neg oM];rfl
 have hi:=zws h.inv (zb k) (m:Int);have hn:=h.nm.cut k (m:Int)
 rw[e] at hi hn ⊢;refine⟨rfl,⟨hi,hn,by rw[zis h],by rw[zis h]⟩,fun n=>?_⟩;exact zdN h.inv.sort _ n
theorem PowW.remove (h:PowW D) {k:Int} (hk:okK k) {f:FileR} (hf:zh D.l (zb k)=some f) :
  (z7 D (zb k)).2=0∧PowW (z7 D (zb k)).1∧∀ n,zh (z7 D (zb k)).1.l n=if n=zb k then none else zh D.l n:=by
 obtain⟨-, h2, -⟩:=h.read hk hf;have e:z7 D (zb k)=(zbb D (zaP D.l (zb k)),0):=by unfold z7;rw[if_neg (by simp[h2])]
 have hi:=zez h.inv (zb k);have hn:=h.nm.remove (zb k)
 rw[e] at hi hn ⊢;refine⟨rfl,⟨hi,hn,by rw[zis h],by rw[zis h]⟩,fun n=>?_⟩;exact zgI h.inv.sort _ n
theorem zwx {j k:Int} (hj:okK j) (hk:okK k):zb j=zb k↔j=k:=⟨fun e=>zj3 (by unfold okK at hj;omega) (by unfold okK at hk;omega) e,fun e=>by rw[e]⟩
theorem znh:∀ {ks:List Int} {D:zf},PowW D→ks.Nodup→(∀ k∈ks,okK k∧∃ f,zh D.l (zb k)=some f) →
  (removeAll D ks).2=0∧PowW (removeAll D ks).1∧∀ k,okK k→zh (removeAll D ks).1.l (zb k)=if k∈ks then none else zh D.l (zb k)
 | [],D,h,_,_=>⟨rfl,h,fun k _=>by rfl⟩
 | k::r,D,h,hn,hk=>by
  obtain⟨h1,f,h2⟩:=hk k oS;obtain⟨g1,g2,g3⟩:=h.remove h1 h2;rw[Yau] at hn;rw[removeAll,if_neg (by simp[g1])]
  obtain⟨a1,a2,a3⟩:=znh g2 hn.2 fun j hj=>by
   obtain⟨b1,f2,b2⟩:=hk j (by simp[hj]);refine⟨b1,f2,?_⟩;have hne:¬zb j=zb k:=fun e=>hn.1 ((zwx b1 h1).1 e▸hj)
   rw[g3,if_neg hne];exact b2
  refine⟨a1,a2,fun j hj=>?_⟩;rw[a3 j hj];have g:=g3 (zb j)
  by_cases e:j=k
  ·simp_all
  ·have hne:¬zb j=zb k:=fun q=>e ((zwx hj h1).1 q)
   rw[if_neg hne] at g;by_cases e2:j∈r
   ·simp_all
   ·simp_all
theorem zAE (h:PowW D) (pick:Int→Bool):(za7 D pick).Nodup:=by
 have h1:(D.l.map fun f=>zcB f.name).Pairwise fun a b=>a≠b∨a≤0:=by
  rw[Ybd];refine List.Pairwise.imp_of_mem (fun {x y} hx hy hxy=>?_) h.inv.sort;rcases h.nm.num hx with ⟨-, h1⟩|⟨-, h1⟩
  ·rcases h.nm.num hy with ⟨h4,h2⟩|⟨-, h2⟩
   ·refine .inl fun e=>?_
    rw[h1,h2,e,zfK] at hxy;cases hxy
   ·omega
  ·omega
 unfold za7 List.Nodup;refine List.Pairwise.imp_of_mem (fun {x y} hx hy hxy=>?_) (h1.filter _);rw[Ya3] at hx
 have h0:0<x:=by
  have:=hx.2;simp only[Yl,decide_eq_true_eq] at this;exact this.1
 rcases hxy with h2|h2
 ·exact h2
 ·omega
end
section
variable {D:zf} {L:zaz} {f0 last:Int} {l:List FileR} {put:List (List UInt8)} {safe:Nat}
structure SegI (f0 last:Int) (l:List FileR) (put:List (List UInt8)) (safe:Nat):Prop where
 ok:∀ q∈put,zcH q
 f1:1≤f0∧f0≤last∧last≤99999
 names:∀ f∈l,(∃ k:Int,1≤k∧k≤last∧f.name=zb k)∨zhE f.name
 seg:∃ (parts:List (List (List UInt8))) (cur:List (List UInt8)),(parts.length:Int)+f0=last∧put=parts.flatten++cur ∧
  (∀ (i:Nat) q,parts[i]? = some q→∃ s:ByteArray,zh l (zb (f0+i))=some ⟨zb (f0+i),s,.empty⟩∧bl s=za6 q)∧zEw l last parts.flatten cur safe
theorem SegI.k1 (h:SegI f0 last l put safe):1≤last∧last≤99999:=by have:=h.f1;omega
theorem SegI.start {l:List FileR} {k:Int} (hk:1≤k∧k≤99999) (hn:∀ f∈l,(∃ j:Int,1≤j∧j≤k∧f.name=zb j)∨zhE f.name) (h0:zh l (zb k)=none):SegI k k l [] 0:=
 ⟨by simp,by omega,hn,[],[],by simp,rfl,by simp,.inl ⟨h0,rfl,Yd _⟩⟩
theorem SegI.safe_le (h:SegI f0 last l put safe):safe≤put.length:=by
 obtain⟨parts,cur,h1,h2,h3,h4⟩:=h.seg;rw[h2,Yi];rcases h4 with ⟨_,_,h5⟩|⟨s,t,j,_,_,h6,_,h7⟩<;>omega
theorem SegI.turn (h:SegI f0 last l put safe) (hs:SortedR l) {s t:ByteArray} {q:List (List UInt8)} (hq:∀ p∈q,zcH p) {safe':Nat}
  (hc:∀ parts cur,zEw l last parts cur safe→bl s++bl t=za6 (cur++q)∧∃ j,j≤(cur++q).length∧zah ((cur++q).take j)≤s.size∧safe'≤parts.length+j):SegI f0 last (za5 l ⟨zb last,s,t⟩) (put++q) safe':=by
 obtain⟨parts,cur,h1,h2,h3,h4⟩:=h.seg;obtain⟨h5,j,h6,h7,h8⟩:=hc _ _ h4;have hf1:=h.f1
 refine⟨fun p hp=>?_,h.f1,fun f hf=>?_,parts,cur++q,h1,by rw[h2,Yr],fun i p hp=>?_,.inr ⟨s,t,j,?_,h5,h6,h7,h8⟩⟩
 ·rcases Yy.1 hp with hp|hp
  ·exact h.ok p hp
  ·simp_all
 ·rcases withR_mem.1 hf with rfl|⟨hf,_⟩
  ·grind
  ·exact h.names f hf
 ·obtain⟨s2,g1,g2⟩:=h3 i p hp;have hi:=(Yu.1 hp).1
  refine⟨s2,?_,g2⟩;rw[zdN hs,if_neg]
  ·exact g1
  ·exact zlH oM h.k1 oM
 ·rw[zdN hs,if_pos rfl]
theorem SegI.full (h:SegI f0 last l put safe) (hf:zvc l last):SegI f0 last l put put.length:=by
 obtain⟨parts,cur,h1,h2,h3,h4⟩:=h.seg;refine⟨h.ok,h.f1,h.names,parts,cur,h1,h2,h3,?_⟩;rcases h4 with ⟨h5,h6,h7⟩|⟨s,t,j,h5,h6,h7,h8,h9⟩
 ·exact .inl ⟨h5,h6,by simp_all⟩
 ·have ht:t = .empty:=hf _ h5;refine .inr ⟨s,t,cur.length,h5,h6,Yd _,?_,by simp_all⟩;rw[Yaj,←zdU,←h6,ht,zd5,Yt,zbP];exact Yd _
theorem SegI.sync (h:SegI f0 L.last D.l put safe) (hi:InvD D):SegI f0 L.last (syncL D L).1.l put safe∧((syncL D L).2.2=0→zvc (syncL D L).1.l L.last):=by
 unfold syncL;split
 ·simp_all
 split
 ·simp_all
 rename_i hd;have hd':D.down=false:=by simpa using hd
 split
 ·rename_i he;refine⟨h,fun _ f hf=>?_⟩;unfold zcP at he;rw[if_neg hd,zju hd' (zcI h.k1),hf] at he;unfold zgN at he;rw[hf] at he;dsimp only at he;rw[all_size] at he;exact zuc oM
 ·rename_i he;dsimp only;unfold zbz;split
  ·simp_all
  ·rename_i h0;have hf:=(zcl (by simpa using h0)).2
   refine⟨?_,fun _ f hf2=>?_⟩
   ·have:=h.turn hi.sort (s:=(zq D (zb L.last)).all) (t := .empty) (q:=[]) oS (safe':=safe) fun parts cur hc=>by
     rcases hc with ⟨h5,_,_⟩|⟨s,t,j,h5,h6,h7,h8,h9⟩
     ·simp_all
     ·rw[hf] at h5;have h10:=Yb2 h5
      rw[h10];refine⟨by rw[zd5,Yt,Yt,FileR.all,zbv];exact h6,j,by simp_all,?_,h9⟩;rw[Yt,all_size];dsimp only;omega
    rw[Yt] at this;exact this
   ·have:zh (za5 D.l ⟨zb L.last,(zq D (zb L.last)).all,.empty⟩) (zb L.last)=some f:=hf2;rw[zdN hi.sort,if_pos rfl] at this;cases this;rfl
theorem SegI.next (h:SegI f0 last l put safe) (hf:zvc l last) (hne:∃ f,zh l (zb last)=some f) (hl:last<99999):SegI f0 (last+1) l put safe:=by
 obtain⟨parts,cur,h1,h2,h3,h4⟩:=h.seg;have hsf:=h.safe_le
 obtain⟨f,hff⟩:=hne;rcases h4 with ⟨h5,_,_⟩|⟨s,t,j,h5,h6,h7,h8,h9⟩
 ·simp_all
 have ht:t = .empty:=hf _ h5;subst ht;have hl1:=h.f1
 refine⟨h.ok,by omega,fun f hf=>?_,parts++[cur],[],by simp;omega,by simp_all,fun i q hq=>?_,.inl ⟨?_,rfl,by simp_all⟩⟩
 ·rcases h.names f hf with ⟨k,g1,g2,g3⟩|g
  ·grind
  ·exact .inr g
 ·by_cases hi:i<parts.length
  ·grind
  ·rw[Yan oM] at hq
   have hi0:i - parts.length=0:=by
    have:=(Yu.1 hq).1;simp at this;omega
   rw[hi0] at hq;simp at hq;subst hq;have e:f0+(i:Int)=last:=by omega
   rw[e];exact⟨s,h5,by rw[zd5,Yt] at h6;exact h6⟩
 ·rw[findR_none];intro f hf e;rcases h.names f hf with ⟨k,g1,g2,g3⟩|g
  ·rw[g3] at e;exact zlH oM oM oM e
  ·rw[e] at g;have:=zgf g
   rw[zcd oM] at this;omega
theorem SegI.begin (h:SegI f0 L.last D.l put safe) (hi:InvD D):SegI f0 (beginL D L).2.1.last (beginL D L).1.l put safe∧((beginL D L).2.2.2=0→SegI f0 (beginL D L).2.1.last (beginL D L).1.l put put.length∧zvc (beginL D L).1.l (beginL D L).2.1.last)∧(beginL D L).2.1.last≤L.last+1:=by
 obtain⟨g1,g2⟩:=h.sync hi;have g3:=zCA D L
 unfold beginL;split
 ·grind
 rename_i he;have gs:=g2 (by omega)
 split
 ·dsimp only;rw[g3];exact⟨g1,fun _=>⟨g1.full gs,gs⟩,by omega⟩
 rename_i hl;split
 ·simp_all
 rename_i hm;dsimp only
 have hne:∃ f,zh (syncL D L).1.l (zb L.last)=some f:=by
  cases hf:zh (syncL D L).1.l (zb L.last) with
  | some f=>simp
  | none=>
   exfalso;apply hl;unfold zcP;split
   ·unfold zgN;rw[hf]
   ·rename_i hd;rw[zju (by simpa using hd) (zcI h.k1),hf];rfl
 have hlt:L.last<99999:=by have:=h.f1;omega
 have hx:=(g1.full gs).next gs hne hlt;refine⟨g1.next gs hne hlt,fun _=>⟨hx,fun f hf=>?_⟩,Yae _⟩;obtain⟨parts,cur,h1,h2,h3,h4⟩:=hx.seg
 have hnone:zh (syncL D L).1.l (zb (L.last+1))=none:=by
  rw[findR_none];intro f hf e;rcases g1.names f hf with ⟨k,q1,q2,q3⟩|g
  ·have:=h.f1;rw[q3] at e;exact zlH oM oM oM e
  ·rw[e] at g;have:=zgf g
   have:=h.f1;rw[zcd oM] at *;omega
 have hf':zh (syncL D L).1.l (zb (L.last+1))=some f:=hf;rw[hnone] at hf';cases hf'
theorem SegI.app1 (h:SegI f0 last D.l put safe) (hi:InvD D) {q:List UInt8} (hq:zcH q) :
  ((zap D (zb last) (zag q)).2=0→SegI f0 last (zap D (zb last) (zag q)).1.l (put++[q]) safe)∧((zap D (zb last) (zag q)).2≠0→SegI f0 last (zap D (zb last) (zag q)).1.l put safe):=by
 unfold zap;split
 ·simp_all
 split
 ·simp_all
 refine⟨fun _=>?_,fun e=>absurd rfl e⟩;refine h.turn hi.sort (by simp_all) fun parts cur hc=>?_
 rcases hc with ⟨h5,h6,h7⟩|⟨s,t,j,h5,h6,h7,h8,h9⟩
 ·have e:zq D (zb last)=⟨zb last,.empty,.empty⟩:=by unfold zq;rw[h5];rfl
  rw[e,h6];refine⟨by rw[zbv,zd5,zmj];simp[za6],0,Y5 _,by simp[zah],by omega⟩
 ·have e:zq D (zb last)=⟨zb last,s,t⟩:=by unfold zq;rw[h5];rfl
  rw[e];refine⟨by dsimp only;rw[zbv,←Yr,h6,zj2];congr 1;rw[zmj];simp[za6],j,by simp;omega,?_,h9⟩;rw[Y4 h7];exact h8
theorem SegI.append (h:SegI f0 L.last D.l put safe) (hi:InvD D) (q:List UInt8) :
  ((z8 D L q).2.2=0→SegI f0 (z8 D L q).2.1.last (z8 D L q).1.l (put++[q]) safe)∧((z8 D L q).2.2≠0→SegI f0 (z8 D L q).2.1.last (z8 D L q).1.l put safe)∧(z8 D L q).2.1.last≤L.last+1:=by
 obtain⟨g1,g2,g3⟩:=h.begin hi;have gi:=zAD hi L
 unfold z8;split
 ·grind
 split
 ·grind
 rename_i h0;have hq:=zCC h0
 split
 ·exact⟨fun e=>(by cases e),fun _=>h,by unfold zdw;dsimp only;omega⟩
 split
 ·rename_i he;unfold zbA at he ⊢;split at he
  ·simp_all
  ·simp_all
 ·unfold zbA;split
  ·obtain⟨a1,a2⟩:=g1.app1 gi hq;exact⟨a1,a2,g3⟩
  ·obtain⟨a1,a2⟩:=h.app1 hi hq;exact⟨a1,a2,by unfold zdw;dsimp only;omega⟩
end
end Go.Proofs.YtlgbofpennelhaaGreat
namespace Go.Proofs.YtlgbofpennelhaaGreat
open Go Go.Vm
attribute [local irreducible] Brn Ob Grow CallsM inR zI zF Mem.row Mem.cells Mem.setCells Mem.upd Go.Vm.Own zZ zaj zam zO New SrcOk subA NewSl Mem.textAt Mem.mapAt Mem.iterAt zC zB Wr NewEls Elems
set_option maxRecDepth 10000
section
variable {M M0:Mem} {g p b:Nat} {D:zf} {es:FsT}
def dropL (D:zf) (L:zaz) (k:Int):zf×zaz×Int:=
 if L.failed=true then (D,L,7) else if k<L.first∨L.last<k then (D,L,1)
 else ((removeAll D (za7 D fun n=>decide (L.first≤n)&&decide (n<k))).1,
  (if (removeAll D (za7 D fun n=>decide (L.first≤n)&&decide (n<k))).2=0 then { (zdw L (removeAll D (za7 D fun n=>decide (L.first≤n)&&decide (n<k))).2) with first:=k } else zdw L (removeAll D (za7 D fun n=>decide (L.first≤n)&&decide (n<k))).2),
  (removeAll D (za7 D fun n=>decide (L.first≤n)&&decide (n<k))).2)
end
section
variable {M B:Mem} {p b sp sb:Nat} {S:StR} {came:Int} {xs:HsT} {es:EsT} {L:List K} {D:ztb} {ms:List MX}
structure zL6 (B M:Mem) (p b sp sb:Nat) (S:StR) (came:Int) (xs:HsT) (es:EsT) (L:List K) (D:ztb) (ms:List MX):Prop where
 own:FreshSt B M p b sp sb S came xs es
 doc:zJF B S L D ms
 rel:zKQ es L
structure StB where
 i:Nat
 mem:Mem
 B:Mem
 S:StR
 came:Int
 xs:HsT
 es:EsT
 L:List K
 D:ztb
 ms:List MX
def zJI (Q:StR→EsT→Prop):Prop:=∀ (S:StR) (es es':EsT) (k:Int) (i:IdT) (p:List UInt8),zlh S→InvE es→Q S es →
 (if za2 S (zes S es) k i p.length=0∧k=4 then zAm S.qg es es' i.o i.d i.e i.c else es'=es)→Q (if za2 S (zes S es) k i p.length=0 then zai S k i p else S) es'
end
end Go.Proofs.YtlgbofpennelhaaGreat
