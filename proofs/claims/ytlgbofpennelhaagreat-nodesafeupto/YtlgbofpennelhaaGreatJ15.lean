/- Part. -/
import Derived.Test.YtlgbofpennelhaaGreatJ10
import Derived.Test.YtlgbofpennelhaaGreatJ11
set_option linter.all false
set_option maxHeartbeats 0
namespace Go.Proofs.YtlgbofpennelhaaGreat
open Go Go.Vm Go.Proofs.Tryz
attribute [local irreducible] Brn Ob Grow CallsM inR zX zI Mem.row Mem.cells Mem.setCells Mem.upd Go.Vm.Own zac zar zas zab New SrcOk subA NewSl Mem.textAt Mem.mapAt Mem.iterAt zH zF Wr NewEls Elems
set_option maxRecDepth 10000
section
variable {M:Mem}
theorem zGj (a:Option Addr) (n c:Nat):CallsM prog 372 [.slice a n c] M fun v M'=>∃ B,v = .func (.func 424) #[] #[.pointer (some ⟨B,0,none⟩)]∧M B=none∧M'=M.setCells B 37 [.slice a n c]:=by
 refine zsK oS ?_;refine new (fun b hb=>?_);replace hb:M b=none:=hb;refine zR ?_;exact⟨b,rfl,hb,rfl⟩
def zon (xs:List zfI):Int:=match xs.getLast? with|none=>0|some x=>x.at'+8+x.n
theorem ztQ (pre:List zfI) (x:zfI):zon (pre++[x])=x.at'+8+x.n:=by simp[zon]
theorem AtX.split {x:zfI}:∀ {k:Nat} {xs:List zfI},AtX k (xs++[x])→AtX k xs∧x.at'=k+zap (xs.map (·.p))∧x.n=x.p.length
 | k,[],⟨h1,h2,_⟩=>⟨trivial,by assumption,h2⟩
 | k,y::r,⟨h3,h4,h5⟩=>by
  obtain⟨h6,h7,h8⟩:=h5.split;exact⟨⟨h3,h4,h6⟩,by rw[h7];simp[zap];omega,h8⟩
theorem AtX.end {xs:List zfI} (h:AtX 0 xs):zon xs=zap (xs.map (·.p)):=by
 rcases List.eq_nil_or_concat xs with rfl|⟨pre,x,rfl⟩
 ·rfl
 ·rw[List.concat_eq_append] at h ⊢;obtain⟨-, h2,h3⟩:=h.split;rw[ztQ,Y4,zp0,h2,h3];simp[zap];omega
@[reducible] def slX (x:zfI):Value := .slice x.a x.n x.c
theorem zGk (x:zfI):∀ u∈[slX x],u.oneCell'=true:=fun u hu=>by simp at hu;subst hu;rfl
structure IX (b1 b2:Nat) (pre:List zfI) (M:Mem):Prop where
 out:∃ a c,M.has b1 22 [.slice a pre.length c]∧Wr M 37 1 a pre.length c (pre.map slX)
 end':M.has b2 3 [.int .i64 (zon pre)]
 rows:∀ x∈pre,Wr M 5 1 x.a x.n x.c (x.p.map zc)
def BytesW (M:Mem) (cs:List Value) (x:List UInt8):Prop:=∃ a n c,cs=[.slice a n c]∧Wr M 5 1 a n c (x.map zc)
theorem BytesW.le {M M':Mem} {cs:List Value} {x:List UInt8} (h:BytesW M cs x) (hle:M.le M'):BytesW M' cs x:=by
 obtain⟨a,n,c,h1,h2⟩:=h;exact⟨a,n,c,h1,h2.le hle⟩
theorem zGl {a:Option Addr} {n c:Nat} {l:List UInt8} (hs:SrcOk M 1 a n (l.map zc)) (hn:n≤2097152) (hnc:n≤c):CallsM prog 297 [.slice a n c] M fun v M'=>
  ∃ a' n' c',v = .tuple #[.slice a' n' c',.int .i64 (zap (zaK l):Nat)]∧NewEls M 37 1 a' n' c' (BytesW M') (zaK l) M':=by
 refine zsI oS ?_;refine zM (zGj a n c) ?_;rintro v M1 ⟨B,rfl,hB,hM1⟩;have hle1:M.le M1:=hM1▸Yw hB
 have hB1:M1.has B 37 [.slice a n c]:=hM1▸Ye;refine⟨rfl,?_⟩;refine new (fun b1 hb1=>?_);replace hb1:M1 b1=none:=hb1;refine new (fun b2 hb2=>?_);replace hb2:(M1.setCells b1 22 [.slice none 0 0]) b2=none:=hb2
 have hne:b2≠b1:=fun e=>by
  rw[e] at hb2;have h1:=Ye (M:=M1) (b:=b1) (E:=22) (l:=[.slice none 0 0])
  unfold Mem.has at h1;rw[h1] at hb2;cases hb2
 have hle2:M1.le (M1.setCells b1 22 [.slice none 0 0]):=Yw hb1;have hle3:(M1.setCells b1 22 [.slice none 0 0]).le ((M1.setCells b1 22 [.slice none 0 0]).setCells b2 3 [.int .i64 0]):=Yw hb2
 have h1b1:=Mem.has.le hle3 (Ye (M:=M1) (b:=b1) (E:=22) (l:=[.slice none 0 0]));have h1b2:=Ye (M:=M1.setCells b1 22 [.slice none 0 0]) (b:=b2) (E:=3) (l:=[.int .i64 0])
 have hb21:M1 b2=none:=by
  cases e:M1 b2 with
  | none=>rfl
  | some o=>rw[hle2 _ _ e] at hb2;cases hb2
 obtain⟨M3,hM3⟩:=oI ((M1.setCells b1 22 [.slice none 0 0]).setCells b2 3 [.int .i64 0]);rw[←hM3] at hle3 h1b1 h1b2;obtain⟨M0,hM0⟩:∃ M0:Mem,M0=M3.minus (fun y=>y≠b1∧y≠b2):=⟨_,rfl⟩
 have h01:M0 b1=M3 b1:=by rw[hM0];unfold Mem.minus;rw[if_neg oS]
 have h02:M0 b2=M3 b2:=by rw[hM0];unfold Mem.minus;rw[if_neg oS]
 erw [←hM3];refine rangeV (zFS (A:=M1) (hs.le hle1) hn hnc hB1) (by kernel_rfl) rfl (Yc hle2 hle3) (fun _=>rfl) (IX b1 b2) M0 (hM0▸Yac _ _) (fun b hb=>?_) ⟨⟨none,0,?_,?_⟩,?_,by simp⟩ ?_ ?_
 ·rw[hM0];refine Yao ⟨fun e=>?_,fun e=>?_⟩
  ·simp_all
  ·simp_all
 ·unfold Mem.has at h1b1 ⊢; rw[h01];exact h1b1
 ·unfold Wr;exact⟨rfl,Yd _,.inl ⟨rfl,rfl⟩⟩
 ·unfold Mem.has at h1b2 ⊢; rw[h02];exact h1b2
 ·rintro pre x Mb Mx Mc ⟨⟨a2,c2,ho1,ho2⟩,he,hrows⟩ hlt ⟨hx1,hx2,hx3,hx4⟩ hfr hle4 hle5;have g1:Mc.has b1 22 [.slice a2 pre.length c2]:=Mem.has.le hle4 ho1
  have g2:Mc.has b2 3 [.int .i64 (zon pre)]:=Mem.has.le hle4 he;have g3:=ho2.le hle4
  have hex:=ztQ pre x;obtain⟨at',xa,xn,xc,xp⟩:=x;dsimp only at hx1 hx2 hx3 hx4 hex;refine zR ?_;refine⟨rfl,?_⟩;refine zW g1 ?_;refine ziz (Mc.minus (blk a2)) _ (Wr.newSl g3) oM (by simp[maxLen];omega) (zGk ⟨at',xa,xn,xc,xp⟩) fun a4 c4 M4 hN4 hk4=>?_
  have hb1n:¬blk a2 b1:=fun ⟨q,hq,e⟩=>by
   obtain⟨cs,hh⟩:=g3.block hq;rw[e] at hh;exact absurd (hh.inj g1).1 oD
  have hb2n:¬blk a2 b2:=fun ⟨q,hq,e⟩=>by
   obtain⟨cs,hh⟩:=g3.block hq;rw[e] at hh;exact absurd (hh.inj g2).1 oD
  have k1:M4.has b1 22 [.slice a2 pre.length c2]:=hk4 _ _ hb1n g1;have k2:M4.has b2 3 [.int .i64 (zon pre)]:=hk4 _ _ hb2n g2
  have k3:=hN4.wr
  have hb4:∀ q,a4=some q→q.block≠b1∧q.block≠b2:=fun q hq=>by
   obtain⟨cs,hh⟩:=k3.block hq;refine⟨fun e=>?_,fun e=>?_⟩
   ·rw[e] at hh;exact absurd (hh.inj k1).1 oD
   ·rw[e] at hh;exact absurd (hh.inj k2).1 oD
  have krows:∀ y∈pre++[⟨at',xa,xn,xc,xp⟩],Wr M4 5 1 y.a y.n y.c (y.p.map zc):=fun y hy=>by
   have hy1:Wr Mc 5 1 y.a y.n y.c (y.p.map zc):=by
    rcases Yt.1 hy with hy|hy
    ·exact(hrows y hy).le hle4
    ·simp at hy;subst hy;exact hx3.le hle5
   refine hy1.mono fun q o hq ho=>hk4 _ _ (fun ⟨q2,hq2,e2⟩=>?_) ho
   obtain⟨cs,hh⟩:=g3.block hq2;obtain⟨cs2,hh2⟩:=hy1.block hq;rw[e2] at hh;exact absurd (hh.inj hh2).1 oD
  refine zR ?_;refine on k1.cells ?_;refine ob oS ?_
  have hk5:Mem.keep (fun y=>y=b1) M4 (M4.setCells b1 22 [.slice a4 (pre.length+1) c4]):=fun y o hy ho=>by
   unfold Mem.setCells;rw[Yg _ _ hy];exact ho
  have m1:(M4.setCells b1 22 [.slice a4 (pre.length+1) c4]).has b1 22 [.slice a4 (pre.length+1) c4]:=Ye;obtain⟨M5,hM5⟩:=oI (M4.setCells b1 22 [.slice a4 (pre.length+1) c4]);rw[←hM5] at hk5 m1;have m2:M5.has b2 3 [.int .i64 (zon pre)]:=hk5 _ _ hne k2
  erw [←hM5];refine obr (inR_i64 (by grind)) ?_;refine obr (inR_i64 (by grind)) ?_;refine on m2.cells ?_;refine ob oS ?_
  have hk6:Mem.keep (fun y=>y=b2) M5 (M5.setCells b2 3 [.int .i64 (at'+8+xn)]):=fun y o hy ho=>by
   unfold Mem.setCells;rw[Yg _ _ hy];exact ho
  have p2:(M5.setCells b2 3 [.int .i64 (at'+8+xn)]).has b2 3 [.int .i64 (at'+8+xn)]:=Ye;obtain⟨M6,hM6⟩:=oI (M5.setCells b2 3 [.int .i64 (at'+8+xn)]);rw[←hM6] at hk6 p2;refine⟨rfl,M6,⟨⟨a4,c4,?_,?_⟩,?_,fun y hy=>?_⟩,hM6▸Ya _⟩
  ·rw[Yi];exact hk6 _ _ (Ne.symm hne) m1
  ·rw[Yi,Y4];refine k3.mono fun q o hq ho=>hk6 _ _ (hb4 q hq).2 (hk5 _ _ (hb4 q hq).1 ho)
  ·simp_all
  ·have hy1:=krows y hy;refine hy1.mono fun q o hq ho=>?_
   obtain⟨cs2,hh2⟩:=hy1.block hq;refine hk6 _ _ (fun e=>?_) (hk5 _ _ (fun e=>?_) ho)
   ·rw[e] at hh2;exact absurd (hh2.inj k2).1 oD
   ·rw[e] at hh2;exact absurd (hh2.inj k1).1 oD
 ·rintro xs Mb Mc ⟨hD1,hD2⟩ ⟨⟨a2,c2,ho1,ho2⟩,he,hrows⟩ hdj hle4 hle5;have g1:Mc.has b1 22 [.slice a2 xs.length c2]:=Mem.has.le hle4 ho1
  have g2:Mc.has b2 3 [.int .i64 (zon xs)]:=Mem.has.le hle4 he;refine zK g1 ?_;refine zW g2 ?_;refine⟨a2,xs.length,c2,?_,?_⟩
  ·rw[hD2.end,hD1]
  ·have hlen:(zaK l).length=xs.length:=by rw[←hD1];simp
   unfold NewEls;refine⟨xs.map fun x=>[slX x],?_,by simp,hlen,by simp,fun i cs p hi hp=>?_⟩
   ·have e:(xs.map fun x=>[slX x]).flatten=xs.map slX:=by
     clear g1 g2 ho1 ho2 he hrows hlen hD1 hD2
     induction xs with
     | nil=>rfl
     | cons y r ih=>simp[ih]
    rw[e];refine newSl_iff.2 ⟨Yc hle1 hle5,?_⟩;unfold Wr at ho2;obtain⟨w1,w2,w3⟩:=ho2;refine⟨w1,w2,w3.imp id fun ⟨b,cs,ha,hh,hr⟩=>⟨b,cs,ha,?_,hh.le hle4,hr⟩⟩;cases e:M b with
    | none=>rfl
    | some o=>
     have:=hdj b (by rw[hle1 _ _ e];simp);unfold Mem.has at hh;rw[hh] at this;cases this
   ·rw[Ybd] at hi;cases hx:xs[i]? with
    | none=>simp_all
    | some x=>
     rw[hx] at hi;simp at hi;subst hi;rw[←hD1,Ybd,hx] at hp;simp at hp;subst hp;have hw:=(hrows x (Yak hx)).le hle4
     exact⟨x.a,x.n,x.c,rfl,hw⟩
end
section
variable {M:Mem}
def kk (k:Int):Nat→Int
 | 0=>k
 | j+1=>(kk k j).tdiv 10
def dgI (k:Int) (j:Nat):Int:=IntKind.u8.wrap (48+(kk k j).tmod 10)
def dgB (k:Int) (j:Nat):UInt8:=UInt8.ofNat (48+(kk k j).tmod 10).toNat
theorem zf6 {k:Int} (h:0≤k):∀ j,0≤kk k j
 | 0=>h
 | j+1=>by rw[kk];exact Int.tdiv_nonneg (zf6 h j) oD
theorem zFm {k:Int} (h:0≤k) (h2:k≤99999):∀ j,kk k j≤99999
 | 0=>h2
 | j+1=>by
  have h1:=zf6 h j;have h3:=zFm h h2 j
  rw[kk,Yaw h1];omega
theorem zI5 {k:Int} (h:0≤k) (j:Nat):Value.int .u8 (dgI k j)=zc (dgB k j):=by
 have h1:=zf6 h j;have h2:(kk k j).tmod 10=kk k j % 10:=Yb8 h1
 have e:dgI k j=(48+(kk k j).tmod 10) % 256:=by simp[dgI,IntKind.wrap,IntKind.signed,IntKind.bits]
 rw[e];simp only[zc,dgB];congr 1;rw[h2];simp;omega
def zb (k:Int):ByteArray:=if k<1∨99999<k then ByteArray.empty else ⟨#[119,dgB k 4,dgB k 3,dgB k 2,dgB k 1,dgB k 0]⟩
def zr2 (k:Int) (i j:Nat):Value:=if j<i then .int .u8 (dgI k j) else .int .u8 0
theorem zd6 (k:Int):CallsM prog 208 [.int .i64 k] M fun v M'=>v = .string (zb k)∧M.le M':=by
 refine zxd oS ?_;have hempty:(k<1∨99999<k)→zb k=ByteArray.empty:=fun h=>by unfold zb;rw[if_pos h]
 refine zR ?_;refine brn (fun g=>?_) (fun g=>?_)
 ·refine zR ?_;exact⟨by simp_all,Ya _⟩
 have g1:¬k<1:=Zd1 g;refine zR ?_;refine brn (fun g=>?_) (fun g=>?_)
 ·refine zR ?_;exact⟨by simp_all,Ya _⟩
 have g2:¬99999<k:=Zd1 g;have hnn:0≤k:=by omega
 refine zR ?_;refine zan (σ:=Nat) [11,0] (fun i=>[(11,.int .i64 i),(0,.int .i64 (kk k i))]) (fun i=>[.live 409 [.v (zr2 k i 4),.v (zr2 k i 3),.v (zr2 k i 2),.v (zr2 k i 1),.v (zr2 k i 0)]]) (fun _=>M) (fun i=>i≤5) (fun i=>5 - i) 0 oM zS ?_;intro i hi;have hkn:=zf6 hnn i
 refine brn (fun g=>?_) (fun g=>?_)
 ·have hlt:i<5:=by have:=Zd0 g;omega
  have hk9:kk k i≤99999:=zFm hnn oM i;have hm:0≤(kk k i).tmod 10∧(kk k i).tmod 10<10:=by rw[Yb8 hkn];omega
  have hd:0≤(kk k i).tdiv 10∧(kk k i).tdiv 10≤99999:=by rw[Yaw hkn];omega
  match i,hlt,hkn,hk9,hm,hd with
  | 0,_,hkn,hk9,hm,hd=>
   repeat' (first|refine obr (inR_i64 oM) ?_|refine ob oD ?_|refine obr oD ?_|refine ob oM ?_|refine obr oM ?_|fail)
   exact⟨0+1,by omega,by omega,zS⟩
  | 1,_,hkn,hk9,hm,hd=>
   repeat' (first|refine obr (inR_i64 oM) ?_|refine ob oD ?_|refine obr oD ?_|refine ob oM ?_|refine obr oM ?_|fail)
   exact⟨1+1,by omega,by omega,zS⟩
  | 2,_,hkn,hk9,hm,hd=>
   repeat' (first|refine obr (inR_i64 oM) ?_|refine ob oD ?_|refine obr oD ?_|refine ob oM ?_|refine obr oM ?_|fail)
   exact⟨2+1,by omega,by omega,zS⟩
  | 3,_,hkn,hk9,hm,hd=>
   repeat' (first|refine obr (inR_i64 oM) ?_|refine ob oD ?_|refine obr oD ?_|refine ob oM ?_|refine obr oM ?_|fail)
   exact⟨3+1,by omega,by omega,zS⟩
  | 4,_,hkn,hk9,hm,hd=>
   repeat' (first|refine obr (inR_i64 oM) ?_|refine ob oD ?_|refine obr oD ?_|refine ob oM ?_|refine obr oM ?_|fail)
   exact⟨4+1,by omega,by omega,zS⟩
 ·have hi5:i=5:=by have:=Zd1 g;omega
  subst hi5;refine zR ?_;refine new (fun b1 hb1=>?_);replace hb1:M b1=none:=hb1;obtain⟨M2,hM2⟩:=oI (M.setCells b1 409 [.int .u8 (dgI k 4),.int .u8 (dgI k 3),.int .u8 (dgI k 2),.int .u8 (dgI k 1),.int .u8 (dgI k 0)])
  have hN:NewSl M 409 1 (some ⟨b1,0,none⟩) 5 5 ([dgB k 4,dgB k 3,dgB k 2,dgB k 1,dgB k 0].map zc) M2:=by
   rw[hM2];simp only[zI5 hnn];exact Ybb hb1 409 1 5 _ rfl
  erw [←hM2];refine zR ?_;refine zzc hN.src ?_;refine ob (by show 1+5≤_;decide) ?_;refine zR ?_;refine⟨?_,hN.le⟩;unfold zb;rw[if_neg oM];rfl
def pw:Nat→Int
 | 0=>10000
 | j+1=>(pw j).tdiv 10
end
section
variable {M:Mem}
def zdk (k:Int):Nat→Int
 | 0=>0
 | j+1=>10*zdk k j+IntKind.i64.wrap (((dgB k (4 - j)).toNat:Int) - 48)
@[reducible] def zf7 (k:Int):ByteArray:=⟨#[dgB k 4,dgB k 3,dgB k 2,dgB k 1,dgB k 0]⟩
@[reducible] def zkk (k:Int):ByteArray:=⟨#[119,dgB k 4,dgB k 3,dgB k 2,dgB k 1,dgB k 0]⟩
theorem zgX {k:Int} (h:¬(k<1∨99999<k)):zb k=zkk k:=by unfold zb;rw[if_neg h]
theorem zyo {n:Int} (h : -2147483648≤n∧n≤2147483647):inR .i32 n:=by
 simp[inR,IntKind.wrap,IntKind.signed,IntKind.bits];omega
theorem zcF {k:Int} (h:0≤k) (j:Nat):((dgB k j).toNat:Int)=48+kk k j % 10:=by
 have h1:=zf6 h j;have h2:(kk k j).tmod 10=kk k j % 10:=Yb8 h1
 unfold dgB;rw[h2];simp;omega
theorem zmp {n:Int} (h:0≤n∧n≤100):IntKind.i64.wrap n=n:=by
 simp[IntKind.wrap,IntKind.signed,IntKind.bits];omega
theorem zio {k:Int} (h:0≤k) (j:Nat):zdk k (j+1)=10*zdk k j+kk k (4 - j) % 10:=by
 rw[zdk,zcF h,zmp oM];omega
theorem zmq {k:Int} (h:0≤k) (h2:k≤99999):zdk k 1=k / 10000∧zdk k 2=k / 1000∧zdk k 3=k / 100∧zdk k 4=k / 10∧zdk k 5=k:=by
 have a0:kk k 0=k:=rfl;have a1:kk k 1=k / 10:=by show (kk k 0).tdiv 10=_;rw[Yaw (zf6 h 0)];rfl
 have a2:kk k 2=k / 100:=by show (kk k 1).tdiv 10=_;rw[Yaw (zf6 h 1),a1];omega
 have a3:kk k 3=k / 1000:=by show (kk k 2).tdiv 10=_;rw[Yaw (zf6 h 2),a2];omega
 have a4:kk k 4=k / 10000:=by show (kk k 3).tdiv 10=_;rw[Yaw (zf6 h 3),a3];omega
 have b1:zdk k 1=10*zdk k 0+kk k 4 % 10:=zio h 0;have b2:zdk k 2=10*zdk k 1+kk k 3 % 10:=zio h 1
 have b3:zdk k 3=10*zdk k 2+kk k 2 % 10:=zio h 2;have b4:zdk k 4=10*zdk k 3+kk k 1 % 10:=zio h 3
 have b5:zdk k 5=10*zdk k 4+kk k 0 % 10:=zio h 4;have b0:zdk k 0=0:=rfl
 omega
theorem zzZ (k:Int):(zkk k).toList.getD 0 0=119:=by simp
def zhz (s:ByteArray):Prop:=s.size≠6∨((s.toList.getD 0 0).toNat:Int)≠119
theorem zxu {s:ByteArray} (h:zhz s):CallsM prog 371 [.string s] M fun v M'=>v = .int .i64 0∧M=M':=by
 refine zmY oS ?_;refine brn (fun e=>?_) (fun e=>?_)
 ·refine zR ?_;exact⟨rfl,rfl⟩
 ·have e1:s.size=6:=by have:(s.size:Int)=6:=by simpa using e
                       omega
  refine ob (by omega) ?_;refine brn_t (by rcases h with h|h<;>simp_all) ?_;refine zR ?_;exact⟨rfl,rfl⟩
theorem zBV (k:Int) (h:¬(k<1∨99999<k)):CallsM prog 371 [.string (zb k)] M fun v M'=>v = .int .i64 k∧M.le M':=by
 refine zmY oS ?_;rw[zgX h];refine zR ?_;refine ob (by show (0:Int)≤0∧(0:Int)<((6:Nat):Int);decide) ?_;refine zR ?_;refine brn_f (by simp) ?_;refine zR ?_;refine ob (by show (0:Int)≤1∧(1:Int)≤((6:Nat):Int)∧((6:Nat):Int)≤((6:Nat):Int);decide) ?_;refine zR ?_;refine new (fun b1 hb1=>?_);replace hb1:M b1=none:=hb1;have hnn:0≤k:=by omega
 have hdlt:∀ j,(dgB k j).toNat<128:=fun j=>by have:=zcF hnn j;omega
 have htl:(zkk k).extract (1:Int).toNat (((zkk k).size:Nat):Int).toNat=zf7 k:=rfl;refine zan (σ:=Nat) [3] (fun i=>[(3,.int .i64 (zdk k i))]) (fun _=>[]) (fun i=>M.upd b1 (.stringIter (zf7 k) i)) (fun i=>i≤5) (fun i=>5 - i) 0 oM zS ?_;intro i hi;have hsit:(M.upd b1 (.stringIter (zf7 k) i)).sitAt b1=some (zf7 k,i):=by simp[Mem.sitAt,Mem.upd]
 refine on hsit ?_;refine⟨fun hlt=>⟨?_,?_⟩,fun hno=>?_⟩
 ·have hi5:i<5:=hlt
  match i,hi5 with
  | 0,_=>exact hdlt 4
  | 1,_=>exact hdlt 3
  | 2,_=>exact hdlt 2
  | 3,_=>exact hdlt 1
  | 4,_=>exact hdlt 0
 ·have hi5:i<5:=hlt;have hb:48≤((dgB k (4 - i)).toNat:Int)∧((dgB k (4 - i)).toNat:Int)≤57:=by have:=zcF hnn (4 - i);omega
  have ha:0≤zdk k i∧zdk k i≤99999:=by
   obtain⟨c1,c2,c3,c4,c5⟩:=zmq hnn oM
   match i,hi5 with
   | 0,_=>show (0:Int)≤0∧(0:Int)≤99999;omega
   | 1,_=>omega
   | 2,_=>omega
   | 3,_=>omega
   | 4,_=>omega
  have hget:((zf7 k).get! i)=dgB k (4 - i):=by
   match i,hi5 with
   | 0,_=>rfl
   | 1,_=>rfl
   | 2,_=>rfl
   | 3,_=>rfl
   | 4,_=>rfl
  rw[hget];refine brn_t rfl ?_;refine obr (inR_i64 oM) ?_;refine obr (zyo oM) ?_;refine obr (inR_i64 ?_) ?_
  ·rw[zmp oM];omega
  refine⟨i+1,by omega,by omega,?_⟩;refine⟨(by repeat' first|exact True.intro|refine⟨rfl,?_⟩),(by repeat' first|exact True.intro|refine⟨rfl,?_⟩),?_,rfl⟩;dsimp only;rw[Mem.upd_upd];exact Ya _
 ·have hi5:i=5:=by have:¬i<5:=hno;omega
  subst hi5;obtain⟨-, -, -, -, c5⟩:=zmq hnn oM;refine brn_f rfl ?_;refine zR ?_;rw[c5];refine(zd6 k).mono ?_;rintro v M3 ⟨rfl,hle3⟩;rw[zgX h];refine brn_f oS ?_;refine zR ?_;exact⟨rfl,Yc (Ya6 hb1) hle3⟩
end
section
variable {M:Mem} {p b:Nat} {D:ze} {es:FsT}
theorem DAt.setFile (h:DAt M p b D es) {k:ByteArray} {x x':FX} (hx:zf es k=some x) (hf:x'.f=x.f) (hrow:Wr M 5 1 x'.a x'.p.length x'.c (x'.p.map zc)) (hb:∀ y,blk x'.a y→blk x.a y) {M':Mem}
  (hM:M'=M.setCells x.f 120 [.slice x'.a x'.p.length x'.c,.int .i64 x'.safe]) :
  DAt M' p b D (zy es k x')∧Mem.keep (fun y=>y=x.f) M M'∧∀ y,zao p b (zy es k x') y→zao p b es y:=by
 have hxe:FXAt M x:=h.ents _ (zC hx)
 have hk:Mem.keep (fun y=>y=x.f) M M':=fun y o hy ho=>by
  rw[hM];unfold Mem.setCells;rw[Yg _ _ hy];exact ho
 have hown:∀ y,x'.own y→x.own y:=fun y hy=>by
  rcases hy with rfl|hy
  ·exact .inl hf
  ·exact .inr (hb y hy)
 have hE:FXAt M' x':=by
  refine⟨?_,hrow.mono fun q o hq ho=>hk _ _ (fun e=>?_) ho⟩
  ·rw[hf,hM];exact Ye
  ·obtain⟨q',hq',e'⟩:=hb _ ⟨q,hq,rfl⟩;obtain⟨cs,hh⟩:=hxe.row.block hq';rw[e',e] at hh;exact absurd (hh.inj hxe.self).1 oD
 refine⟨h.turn hx (fun y o hy ho=>hk _ _ (fun e=>hy (.inl e)) ho) hE hf fun y hy => .inl (hown y hy),hk,fun y hy=>?_⟩;rcases zl0 hy h.map.nodup with h1|h1
 ·exact h1
 ·exact .inr (.inr ⟨_,zC hx,hown y h1⟩)
theorem Wr.subA0 {E:TypeId} {s:Nat} {a:Option Addr} {n c:Nat} {L:List Value} (h:Wr M E s a n c L):subA a 0 c s=a:=by
 unfold Wr at h;obtain⟨-, -, ⟨rfl,rfl⟩|⟨bb,cs,rfl, -⟩⟩:=h
 ·simp[subA]
 ·unfold subA;split
  ·rfl
  ·simp[zco]
theorem zdI (b:ByteArray) (k:Nat):bl (b.extract 0 k)=(bl b).take k:=by simp[bl]
theorem StepD.fin {M1 M2 M3:Mem} {es2:FsT} {D':ze} (hle:M.le M1) (hk:Mem.keep (zao p b es) M1 M2) (hown:∀ y,zao p b es2 y→zao p b es y) (h3:DAt M3 p b D' es2) (hk3:Mem.keep (fun y=>y=p) M2 M3) (hrel:RelD es2 D'.l):StepD M M3 p b es es2 D':=
 ⟨h3,hrel,fun y o hy ho=>hk3 _ _ (fun e=>hy (.inl e)) (hk _ _ hy (hle _ _ ho)),fun y hy => .inl (hown y hy)⟩
theorem zs3 {s:ByteArray} (h:zaH D s=0):D.down=false∧za5 D s=0:=by
 unfold zaH at h;split at h
 ·omega
 ·rename_i g;have g1:za5 D s=0:=by simpa using g
  refine⟨?_,g1⟩;rw[←Ycb];intro hd;unfold za5 at g1;rw[if_pos hd] at g1;cases g1
theorem zmr (hr:RelD es D.l) {s:ByteArray} {x:FX} (hx:zf es s=some x):(zt D s).name=s∧x.p=bl (zt D s).all∧x.safe=(zt D s).safe.size∧zh D.l s=some (zt D s):=by
 obtain⟨f,hf,hfn,hfp,hfs⟩:=hr.get hx;have hfile:zt D s=f:=by unfold zt;rw[hf];rfl
 rw[hfile];exact⟨hfn,hfp,hfs,hf⟩
theorem zGm (h:DAt M p b D es) (hr:RelD es D.l) (hI:InvD D) (s:ByteArray) (hs:s.size≤4611686018427387904) :
  CallsM prog 210 [ptr p,.string s] M fun v M'=>v = .int .i64 (zbM D s).2∧∃ es',StepD M M' p b es es' (zbM D s).1:=by
 refine zpp oS ?_;refine zM (zl1 h hr s hs) ?_;rintro v M1 ⟨hle1,⟨hne,rfl⟩|⟨h0,x,hx,rfl⟩⟩
 ·(conv=>whnf);refine brn_t (by simp[hne]) ?_;refine zR ?_;have e:zbM D s=(D,zaH D s):=by unfold zbM;rw[if_pos hne]
  rw[e];exact⟨rfl,es,.same h hr hle1⟩
 have h1:=h.le hle1;have hx1:FXAt M1 x:=h1.ents _ (zC hx)
 obtain⟨hfn,hfp,hfs,hff⟩:=zmr hr hx;obtain⟨hdn, -⟩:=zs3 h0;refine zK hx1.self ?_;refine on hx1.self.cells ?_;refine ob oS ?_;obtain⟨h2,hk2,ho2⟩:=h1.setFile (x':=⟨x.f,x.a,x.c,x.p,x.p.length⟩) hx rfl hx1.row (fun y hy=>hy) rfl;obtain⟨M2,hM2⟩:=oI (M1.setCells x.f 120 [.slice x.a x.p.length x.c,.int .i64 x.p.length]);dsimp only at h2 hk2;rw[←hM2] at h2 hk2;erw [←hM2];refine zM (zi3 h2 hdn (zbk D.l ⟨s,(zt D s).all,.empty⟩) hI.left.2) ?_;rintro v M3 ⟨rfl,h3,hk3⟩;have e:zbM D s=(zbq D (zbk D.l ⟨s,(zt D s).all,.empty⟩),0):=by unfold zbM;rw[if_neg (by simp[h0])]
 refine zR ?_;rw[e];refine⟨rfl,_,.fin hle1 (fun y o hy ho=>hk2 _ _ (fun e=>hy (.inr (.inr ⟨_,zC hx,.inl e⟩))) ho) ho2 h3 hk3 ?_⟩;exact hr.put (x:=⟨x.f,x.a,x.c,x.p,x.p.length⟩) (f:=⟨s,(zt D s).all,.empty⟩) (by simp[cont,FileR.all,hfp,←za4])
theorem zHY (h:DAt M p b D es) (hr:RelD es D.l) (hI:InvD D) (s:ByteArray) (hs:s.size≤4611686018427387904) (k:Int) :
  CallsM prog 298 [ptr p,.string s,.int .i64 k] M fun v M'=>v = .int .i64 (zcC D s k).2∧∃ es',StepD M M' p b es es' (zcC D s k).1:=by
 refine zqE oS ?_;refine zM (zl1 h hr s hs) ?_;rintro v M1 ⟨hle1,⟨hne,rfl⟩|⟨h0,x,hx,rfl⟩⟩
 ·(conv=>whnf);refine brn_t (by simp[hne]) ?_;refine zR ?_;have e:zcC D s k=(D,zaH D s):=by unfold zcC;rw[if_pos hne]
  rw[e];exact⟨rfl,es,.same h hr hle1⟩
 have h1:=h.le hle1;have hx1:FXAt M1 x:=h1.ents _ (zC hx)
 obtain⟨hfn,hfp,hfs,hff⟩:=zmr hr hx;obtain⟨hdn, -⟩:=zs3 h0;have hxl:x.p.length=(zt D s).all.size:=by rw[hfp,za4]
 refine zR ?_;refine brn (fun g=>?_) (fun g=>?_)
 ·replace g:=Zd0 g;have e:zcC D s k=(D,1):=by unfold zcC;rw[if_neg (by simp[h0]),if_pos oM]
  refine zR ?_;rw[e];exact⟨rfl,es,.same h hr hle1⟩
 replace g:=Zd1 g;refine zK hx1.self ?_;refine brn (fun g1=>?_) (fun g1=>?_)
 ·replace g1:=Zd0 g1;have e:zcC D s k=(D,1):=by unfold zcC;rw[if_neg (by simp[h0]),if_pos oM]
  refine zR ?_;rw[e];exact⟨rfl,es,.same h hr hle1⟩
 replace g1:=Zd1 g1;have hrow:=hx1.row
 have hsub:=Wr.subA0 hrow;have hrow':=hrow
 unfold Wr at hrow';have hkn:k.toNat≤x.p.length:=by omega
 refine zK hx1.self ?_;refine ob ⟨by decide,by omega,by omega⟩ ?_;refine on hx1.self.cells ?_;refine ob oS ?_
 have hk2:Mem.keep (fun y=>y=x.f) M1 (M1.setCells x.f 120 [.slice (subA x.a 0 x.c 1) (k.toNat - 0) (x.c - 0),.int .i64 x.safe]):=fun y o hy ho=>by
  unfold Mem.setCells;rw[Yg _ _ hy];exact ho
 have hs2:(M1.setCells x.f 120 [.slice (subA x.a 0 x.c 1) (k.toNat - 0) (x.c - 0),.int .i64 x.safe]).has x.f 120 [.slice (subA x.a 0 x.c 1) (k.toNat - 0) (x.c - 0),.int .i64 x.safe]:=Ye;have hse:∀ (cs:List Value),(M1.setCells x.f 120 [.slice (subA x.a 0 x.c 1) (k.toNat - 0) (x.c - 0),.int .i64 x.safe]).setCells x.f 120 cs=M1.setCells x.f 120 cs:=fun cs=>Mem.setCells_setCells ..
 obtain⟨M2,hM2⟩:=oI (M1.setCells x.f 120 [.slice (subA x.a 0 x.c 1) (k.toNat - 0) (x.c - 0),.int .i64 x.safe]);rw[←hM2] at hk2 hs2 hse;erw [←hM2];refine zR ?_;refine on hs2.cells ?_;refine ob oS ?_;obtain⟨x',hx'⟩:∃ x':FX,x'=⟨x.f,x.a,x.c,x.p.take k.toNat,k.toNat⟩:=⟨_,rfl⟩
 have hlen':x'.p.length=k.toNat:=by rw[hx'];simp;omega
 have hrow2:Wr M1 5 1 x'.a x'.p.length x'.c (x'.p.map zc):=by
  rw[hlen',hx'];unfold Wr;obtain⟨w1,w2,w3⟩:=hrow';refine⟨by simp;omega,by grind,w3.imp id fun ⟨bb,cs,e1,e2,e3,e4⟩=>⟨bb,cs,e1,e2,e3,?_⟩⟩;rw[Ybk] at e4 ⊢;rw[List.map_take,←e4,Ybx,Ybh hkn]
 obtain⟨h3,hk3,ho3⟩:=h1.setFile (x':=x') hx (by rw[hx']) hrow2 (fun y hy=>by simp_all) rfl
 have hcells:[Value.slice x'.a x'.p.length x'.c,.int .i64 x'.safe]=[.slice (subA x.a 0 x.c 1) (k.toNat - 0) (x.c - 0),.int .i64 k]:=by
  rw[hsub,hlen',hx',Yb3,Yb3];have:((k.toNat:Nat):Int)=k:=by omega
  dsimp only;rw[this]
 rw[hcells,←hse] at h3 hk3;obtain⟨M3,hM3⟩:=oI (M2.setCells x.f 120 [.slice (subA x.a 0 x.c 1) (k.toNat - 0) (x.c - 0),.int .i64 k]);rw[←hM3] at h3 hk3;erw [←hM3];refine zM (zi3 h3 hdn (zbk D.l ⟨s,(zt D s).all.extract 0 k.toNat,.empty⟩) hI.left.2) ?_;rintro v M4 ⟨rfl,h4,hk4⟩;have e:zcC D s k=(zbq D (zbk D.l ⟨s,(zt D s).all.extract 0 k.toNat,.empty⟩),0):=by unfold zcC;rw[if_neg (by simp[h0]),if_neg oM]
 refine zR ?_;rw[e];refine⟨rfl,_,.fin hle1 (fun y o hy ho=>hk3 _ _ (fun e=>hy (.inr (.inr ⟨_,zC hx,.inl e⟩))) ho) ho3 h4 hk4 ?_⟩;refine hr.put (x:=x') (f:=⟨s,(zt D s).all.extract 0 k.toNat,.empty⟩) ?_;rw[hx'];simp only[cont,FileR.all,Yb6];constructor
 ·rw[zaO,show bl ByteArray.empty=[] from rfl,Ys,hfp,zdI];rfl
 ·rw[←za4,zdI,Ya9,show bl ((zt D s).safe++(zt D s).tail)=x.p from hfp.symm];omega
theorem zBW (h:DAt M p b D es) (hr:RelD es D.l) (hI:InvD D) (s:ByteArray) (hs:s.size≤4611686018427387904) :
  CallsM prog 148 [ptr p,.string s] M fun v M'=>v = .int .i64 (zae D s).2∧∃ es',StepD M M' p b es es' (zae D s).1:=by
 refine znc oS ?_;refine zM (zl1 h hr s hs) ?_;rintro v M1 ⟨hle1,⟨hne,rfl⟩|⟨h0,x,hx,rfl⟩⟩
 ·(conv=>whnf);refine brn_t (by simp[hne]) ?_;refine zR ?_;have e:zae D s=(D,zaH D s):=by unfold zae;rw[if_pos hne]
  rw[e];exact⟨rfl,es,.same h hr hle1⟩
 have h1:=h.le hle1;obtain⟨hdn, -⟩:=zs3 h0;refine zK h1.self ?_;refine h1.map.del zqO s fun q2 f2 hm=>?_
 replace hm:=hm M1;obtain⟨M2,hM2⟩:=oI (M1.upd b (zdl q2 f2));have hk2:Mem.keep (fun y=>y=b) M1 M2:=hM2▸Yae _ _ rfl
 rw[←hM2] at hm;erw [←hM2];have h2:=h1.less s hk2 hm
 refine zM (zi3 h2 hdn (zba D.l s) hI.left.2) ?_;rintro v M3 ⟨rfl,h3,hk3⟩;have e:zae D s=(zbq D (zba D.l s),0):=by unfold zae;rw[if_neg (by simp[h0])]
 refine zR ?_;rw[e];exact⟨rfl,_,.fin hle1 (fun y o hy ho=>hk2 _ _ (fun e=>hy (.inr (.inl e))) ho) (fun y hy=>zzr hy) h3 hk3 (hr.del s)⟩
end
end Go.Proofs.YtlgbofpennelhaaGreat
namespace Go.Proofs.YtlgbofpennelhaaGreat
open Go Go.Proofs Go.Shelf
def Tryz.lays190_ren:Go.Shelf.Ren:=⟨fun|190=>90|125=>158|258=>157|128=>244|129=>245|302=>235|303=>236|304=>237|305=>238|306=>239|307=>240|308=>241|309=>242|310=>243|333=>301|329=>302|330=>303|334=>304|335=>305|336=>306|344=>373|n=>n,fun|31=>116|9=>9|3=>3|46=>56|0=>0|51=>356|53=>271|4=>4|183=>368|182=>367|131=>247|5=>5|218=>422|222=>426|228=>477|229=>478|n=>n,fun|n=>n⟩
theorem Tryz.lays190:Go.Proofs.Lays.n190 Tryz.prog Tryz.lays190_ren:={
 mixed:=by kernel_rfl
 f125:=Tryz.func158.trans (congrArg some (by kernel_rfl))
 f128:=Tryz.func244.trans (congrArg some (by kernel_rfl))
 f129:=Tryz.func245.trans (congrArg some (by kernel_rfl))
 f190:=Tryz.func90.trans (congrArg some (by kernel_rfl))
 f258:=Tryz.func157.trans (congrArg some (by kernel_rfl))
 f302:=Tryz.func235.trans (congrArg some (by kernel_rfl))
 f303:=Tryz.func236.trans (congrArg some (by kernel_rfl))
 f304:=Tryz.func237.trans (congrArg some (by kernel_rfl))
 f305:=Tryz.func238.trans (congrArg some (by kernel_rfl))
 f306:=Tryz.func239.trans (congrArg some (by kernel_rfl))
 f307:=Tryz.func240.trans (congrArg some (by kernel_rfl))
 f308:=Tryz.func241.trans (congrArg some (by kernel_rfl))
 f309:=Tryz.func242.trans (congrArg some (by kernel_rfl))
 f310:=Tryz.func243.trans (congrArg some (by kernel_rfl))
 f329:=Tryz.func302.trans (congrArg some (by kernel_rfl))
 f330:=Tryz.func303.trans (congrArg some (by kernel_rfl))
 f333:=Tryz.func301.trans (congrArg some (by kernel_rfl))
 f334:=Tryz.func304.trans (congrArg some (by kernel_rfl))
 f335:=Tryz.func305.trans (congrArg some (by kernel_rfl))
 f336:=Tryz.func306.trans (congrArg some (by kernel_rfl))
 f344:=Tryz.func373.trans (congrArg some (by kernel_rfl))
 t0:=Tryz.underlying0
 a0:=Tryz.isAgg0
 z0:=Tryz.sizeOf0
 v0:=Tryz.zeroValue0
 t3:=Tryz.underlying3
 a3:=Tryz.isAgg3
 z3:=Tryz.sizeOf3
 v3:=Tryz.zeroValue3
 t4:=Tryz.underlying4
 a4:=Tryz.isAgg4
 z4:=Tryz.sizeOf4
 v4:=Tryz.zeroValue4
 t5:=Tryz.underlying5
 a5:=Tryz.isAgg5
 z5:=Tryz.sizeOf5
 v5:=Tryz.zeroValue5
 t9:=Tryz.underlying9
 a9:=Tryz.isAgg9
 z9:=Tryz.sizeOf9
 v9:=Tryz.zeroValue9
 t31:=Tryz.underlying116
 a31:=Tryz.isAgg116
 z31:=Tryz.sizeOf116
 v31:=Tryz.zeroValue116
 t46:=Tryz.underlying56
 a46:=Tryz.isAgg56
 z46:=Tryz.sizeOf56
 v46:=Tryz.zeroValue56
 t51:=Tryz.underlying356
 a51:=Tryz.isAgg356
 z51:=Tryz.sizeOf356
 v51:=Tryz.zeroValue356
 t53:=Tryz.underlying271
 a53:=Tryz.isAgg271
 z53:=Tryz.sizeOf271
 v53:=Tryz.zeroValue271
 t131:=Tryz.underlying247
 a131:=Tryz.isAgg247
 z131:=Tryz.sizeOf247
 v131:=Tryz.zeroValue247
 t182:=Tryz.underlying367
 a182:=Tryz.isAgg367
 z182:=Tryz.sizeOf367
 v182:=Tryz.zeroValue367
 t183:=Tryz.underlying368
 a183:=Tryz.isAgg368
 z183:=Tryz.sizeOf368
 v183:=Tryz.zeroValue368
 t218:=Tryz.underlying422
 a218:=Tryz.isAgg422
 z218:=Tryz.sizeOf422
 v218:=Tryz.zeroValue422
 t222:=Tryz.underlying426
 a222:=Tryz.isAgg426
 z222:=Tryz.sizeOf426
 v222:=Tryz.zeroValue426
 t228:=Tryz.underlying477
 a228:=Tryz.isAgg477
 z228:=Tryz.sizeOf477
 v228:=Tryz.zeroValue477
 t229:=Tryz.underlying478
 a229:=Tryz.isAgg478
 z229:=Tryz.sizeOf478
 v229:=Tryz.zeroValue478 }
end Go.Proofs.YtlgbofpennelhaaGreat
namespace Go.Proofs.YtlgbofpennelhaaGreat
open Go Go.Vm Go.Proofs.Tryz
attribute [local irreducible] Brn Ob Grow CallsM inR zX zI Mem.row Mem.cells Mem.setCells Mem.upd Go.Vm.Own zac zar zas zab New SrcOk subA NewSl Mem.textAt Mem.mapAt Mem.iterAt zH zF Wr NewEls Elems
set_option maxRecDepth 10000
section
variable {M:Mem} {p b:Nat} {D:ze} {es:FsT}
theorem zms {α:Type} (cs vs:List α) (h:cs.length=vs.length):zd cs 0 vs=vs:=by
 unfold zd;simp;omega
theorem zGn (h:DAt M p b D es) (hr:RelD es D.l) (hI:InvD D) (s:ByteArray) (hs:s.size≤4611686018427387904) :
  CallsM prog 150 [ptr p,.string s] M fun v M'=>∃ a n c,v = .tuple #[.slice a n c,.int .i64 (zax D s).2]∧n=(bl (zax D s).1).length∧NewSl M 5 1 a n c ((bl (zax D s).1).map zc) M':=by
 refine zpk oS ?_;refine zM (zl1 h hr s hs) ?_;rintro v M1 ⟨hle1,⟨hne,rfl⟩|⟨h0,x,hx,rfl⟩⟩
 ·(conv=>whnf);refine brn_t (by simp[hne]) ?_;refine zR ?_;have e:zax D s=(.empty,zaH D s):=by unfold zax;rw[if_pos hne]
  rw[e];exact⟨none,0,0,rfl,rfl,(Yat M 5 1).up hle1⟩
 have h1:=h.le hle1;have hx1:FXAt M1 x:=h1.ents _ (zC hx)
 obtain⟨hfn,hfp,hfs,hff⟩:=zmr hr hx
 have hxl:x.p.length≤1048576:=by
  have h1:=zvH (zC hx);have h2:=hr.used
  have h3:=hI.used;dsimp only at h1;omega
 refine zK hx1.self ?_;refine ob ⟨by omega,rfl,by omega,by omega⟩ ?_;refine new (fun b2 hb2=>?_);replace hb2:M1 b2=none:=hb2;have hle2:M1.le (M1.setCells b2 5 (List.replicate (x.p.length:Int).toNat [Value.int .u8 0]).flatten):=Yw hb2
 have hs2:(M1.setCells b2 5 (List.replicate (x.p.length:Int).toNat [Value.int .u8 0]).flatten).has b2 5 (List.replicate (x.p.length:Int).toNat [Value.int .u8 0]).flatten:=Ye;have hlen2:(List.replicate (x.p.length:Int).toNat [Value.int .u8 0]).flatten.length=x.p.length:=by simp
 generalize (List.replicate (x.p.length:Int).toNat [Value.int .u8 0]).flatten=zs at *;obtain⟨M2,hM2⟩:=oI (M1.setCells b2 5 zs);rw[←hM2] at hle2 hs2;erw [←hM2];have hx2:=hx1.le hle2
 refine zK hx2.self ?_;refine zce hx2.row.src ?_;refine ob ⟨by omega,zaN _⟩ ?_;refine on hs2.cells ?_;refine ob (by simp_all) ?_
 have hk3:Mem.keep (fun y=>y=b2) M2 (M2.setCells b2 5 (zd zs 0 (x.p.map zc))):=fun y o hy ho=>by
  unfold Mem.setCells;rw[Yg _ _ hy];exact ho
 have hs3:(M2.setCells b2 5 (zd zs 0 (x.p.map zc))).has b2 5 (zd zs 0 (x.p.map zc)):=Ye;rw[zms zs _ (by simp_all)] at hk3 hs3;obtain⟨M3,hM3⟩:=oI (M2.setCells b2 5 (zd zs 0 (x.p.map zc)));rw[←zms zs (x.p.map zc) (by simp_all),←hM3] at hk3;have hs3':M3.has b2 5 (x.p.map zc):=by rw[hM3,zms zs _ (by simpa using hlen2)];exact hs3
 erw [←hM3];refine zR ?_;have e:zax D s=((zt D s).all,0):=by unfold zax;rw[if_neg (by simp[h0])]
 rw[e];dsimp only;rw[←hfp]
 have hbM:M b2=none:=by
  cases e:M b2 with
  | none=>rfl
  | some z=>rw[hle1 _ _ e] at hb2;cases hb2
 refine⟨_,_,_,rfl,by omega,newSl_iff.2 ⟨hk3.le (Yc hle1 hle2) (fun y hy=>hy▸hbM),by simp,by omega,.inr ⟨b2,x.p.map zc,rfl,hbM,hs3',by simp,by rw[Yf (by simp)]⟩⟩⟩
theorem zGo (h:DAt M p b D es) (hr:RelD es D.l) (s:ByteArray) :
  CallsM prog 209 [ptr p,.string s] M fun v M'=>v = .int .i64 (match zh D.l s with|some f=>(f.safe.size:Int)|none=>0)∧M=M':=by
 refine zpo oS ?_;refine zK h.self ?_;refine h.map.get zqO s (fun hn=>?_) (fun x j hx=>?_)
 ·refine zR ?_;rw[hr.none.1 hn];exact⟨rfl,rfl⟩
 ·obtain⟨hfn,hfp,hfs,hff⟩:=zmr hr hx;have hx1:FXAt M x:=h.ents _ (zC hx)
  refine zK h.self ?_;refine h.map.get zqO s (fun hn=>?_) (fun x' j' hx'=>?_)
  ·simp_all
  ·rw[hx] at hx';cases hx';refine zW hx1.self ?_;rw[hff,hfs];exact⟨rfl,rfl⟩
theorem zGp (h:DAt M p b D es):CallsM prog 81 [ptr p] M fun v M'=>v = .bool D.down∧M=M':=by
 refine zpc oS ?_;refine zW h.self ?_;exact⟨rfl,rfl⟩
theorem zHZ (h:DAt M p b D es) (hr:RelD es D.l) (k:Int):CallsM prog 17 [ptr p,.int .i64 k] M fun v M'=>v = .int .i64 (zeI D k).2∧StepD M M' p b es es (zeI D k).1:=by
 refine zqu oS ?_;refine zJ (zqP h (ns:=[]) (Ybj M 1) oM oS) ?_;rw[zHI];by_cases hd:D.down=true
 ·rw[if_pos hd];have e:zeI D k=(D,9):=by unfold zeI;rw[if_pos hd]
  refine zR ?_;rw[e];exact⟨rfl,.same h hr (Ya _)⟩
 rw[if_neg hd];have e:zeI D k=(⟨D.limit,D.l,if k<0 then -1 else k,decide (k=0)⟩,0):=by unfold zeI;rw[if_neg hd]
 refine zR ?_;refine on h.self.cells ?_;refine ob oS ?_
 have hk2:Mem.keep (fun y=>y=p) M (M.setCells p 99 [.int .i64 D.limit,.map (some b),.int .i64 (max k (-1)),.bool D.down]):=fun y o hy ho=>by
  unfold Mem.setCells;rw[Yg _ _ hy];exact ho
 have hs2:(M.setCells p 99 [.int .i64 D.limit,.map (some b),.int .i64 (max k (-1)),.bool D.down]).has p 99 [.int .i64 D.limit,.map (some b),.int .i64 (max k (-1)),.bool D.down]:=Ye;obtain⟨M2,hM2⟩:=oI (M.setCells p 99 [.int .i64 D.limit,.map (some b),.int .i64 (max k (-1)),.bool D.down]);rw[←hM2] at hs2 hk2;erw [←hM2];refine zR ?_;refine on hs2.cells ?_;refine ob oS ?_
 have hk3:Mem.keep (fun y=>y=p) M2 (M2.setCells p 99 [.int .i64 D.limit,.map (some b),.int .i64 (max k (-1)),.bool (decide (k=0))]):=fun y o hy ho=>by
  unfold Mem.setCells;rw[Yg _ _ hy];exact ho
 have hmx:max k (-1)=if k<0 then -1 else k:=by split<;>omega
 have h3:=h.head ⟨D.limit,D.l,if k<0 then -1 else k,decide (k=0)⟩ (Y9 hk2 hk3) (by rw[←hmx];exact Ye);obtain⟨M3,hM3⟩:=oI (M2.setCells p 99 [.int .i64 D.limit,.map (some b),.int .i64 (max k (-1)),.bool (decide (k=0))]);rw[←hM3] at hk3 h3;erw [←hM3];refine zR ?_;rw[e];exact⟨rfl,h3,hr,Yd2 (Y9 hk2 hk3) fun y e => .inl e,fun y hy => .inl hy⟩
theorem zv6 (l:List ByteArray):l.map zgk=(l.map bl).map Go.Proofs.encStr:=by
 rw[Ybc];apply Ya8;intro s _;exact congrArg Value.string (zIX s).symm
theorem zmt (h:DAt M p b D es) (hr:RelD es D.l) (hI:InvD D) :
  CallsM prog 44 [ptr p] M fun v M'=>∃ a c,v = .slice a D.l.length c∧NewSl M 9 1 a D.l.length c ((D.l.map (·.name)).map zgk) M':=by
 refine znS oS ?_;have hlen:=hr.len
 have hI1:=hI.len;refine zK h.self ?_;refine h.map.range fun q bi hbi hI2=>?_
 replace hbi:M bi=none:=hbi
 refine zan (σ:=Mem×(Option Addr×Nat×Nat)×List ByteArray×FsT) [3] (fun x=>[(3,.slice x.2.1.1 x.2.1.2.1 x.2.1.2.2)]) (fun _=>[]) (fun x=>x.1)
  (fun|⟨M1,(a,n,c),l,todo⟩=>NewSl M 9 1 a n c (l.map zgk) M1∧Iter zgk fxV M1 bi b es todo∧(l++todo.map (·.1)).Perm (es.map (·.1))) (fun x=>x.2.2.2.length) ⟨_,(none,0,0),[],es⟩
  ⟨(Yat M 9 1).up (Ya6 hbi),hI2,by simp⟩ zS ?_
 rintro ⟨M1,⟨a,n,c⟩,l,todo⟩ ⟨hN,hI3,hperm⟩;refine hI3.next (fun h0=>?_) (fun i k todo' o' hperm2 hI4 hent=>?_)
 ·subst h0;have hl:l.length=n:=hN.src.maplen
  have hln:n=D.l.length:=by have:=hperm.length_eq;simp at this;omega
  refine zR ?_;have hw:=hN.wr
  rw[zv6] at hw;refine(zC9 Tryz.lays190 (by kernel_rfl) hw (show n<4611686018427387904 by omega)).mono ?_;rintro v M2 ⟨rfl,hw2,hk2⟩
  have hnames:zg6 (l.map bl)=(D.l.map (·.name)).map bl:=by
   refine Yc2 (le:=fun x y=>x≤y) (fun x y _ _ h1 h2=>List.le_antisymm h1 h2) ?_ ?_ ?_
   ·have:=List.pairwise_mergeSort (le:=fun (x y:List UInt8)=>decide (x≤y)) (fun a b c h1 h2=>by grind) (fun a b=>by grind) (l.map bl);exact this.imp fun h=>Zd0 h
   ·rw[Yay,Yay];exact hr.sort.imp fun {x y} hxy=>List.le_of_lt ((zil _ _).1 hxy)
   ·refine(zvF _).trans ?_;have h1:l.Perm (es.map (·.1)):=by simpa using hperm
    exact(h1.trans hr.names).map bl
  rw[hnames,←zv6] at hw2;refine zR ?_;rw[hln] at hw2;dsimp only;rw[hln];exact⟨a,c,rfl,hN.ofWr hw2 hk2 rfl⟩
 ·have hk2:Mem.keep (fun y=>y=bi) M1 (M1.upd bi o'):=Yae _ _ rfl
  have hN2:NewSl M 9 1 a n c (l.map zgk) (M1.upd bi o'):=hN.keep hk2 (fun y e=>e▸hbi) (fun q hq e=>by
    obtain⟨_,cs,hh⟩:=hN.block hq
    exact(hI3.nb hh).1 e)
  obtain⟨M2,hM2⟩:=oI (M1.upd bi o');rw[←hM2] at hI4 hent hN2;have hl:l.length=n:=hN.src.maplen
  have hlt:l.length<es.length:=by have:=hperm.length_eq;have:=hperm2.length_eq;simp at *; omega
  erw [←hM2];refine zR ?_;refine on hent ?_;refine ziz M _ hN2 (by grind) (by simp[maxLen];omega) oC fun a6 c6 M6 hN6 hk6=>?_
  have hnb:∀ y,blk a y→y≠bi∧y≠b:=fun y ⟨q,hq,e⟩=>by
   obtain⟨_,cs,hh⟩:=hN2.block hq;exact e▸hI4.nb hh
  have hI6:=hI4.keep hk6 (fun hb=>(hnb _ hb).1 rfl) (fun hb=>(hnb _ hb).2 rfl);refine⟨⟨M6,(a6,n+1,c6),l++[i],todo'⟩,⟨by simpa using hN6,hI6,?_⟩,by have:=hperm2.length_eq;simp at this ⊢; omega,zS⟩;refine List.Perm.trans ?_ hperm;rw[Yp];refine Yde _ ?_;simpa using (hperm2.map (·.1)).symm
end
section
variable {M:Mem} {p b:Nat} {D:ze} {es:FsT}
def zdq (keep:List Int) (i:Nat) (L:List FileR):List FileR:=L.mapIdx fun j f=>if j<i then zef keep j f else f
theorem ziF (keep:List Int) (i:Nat) (L:List FileR):(zdq keep i L).map (·.name)=L.map (·.name):=by
 apply Ybl;intro j;simp only[zdq,Ybd,Yc0,Option.map_map];cases L[j]? with
 | none=>rfl
 | some f=>simp only[Ycu,Function.comp_apply];split<;>rfl
theorem ziG {L L':List FileR} (h:SortedR L) (e:L'.map (·.name)=L.map (·.name)):SortedR L':=by
 have h1:(L.map (·.name)).Pairwise fun x y=>zgG x y=true:=by rw[Yay];exact h
 rw[←e,Yay] at h1;exact h1
theorem crashTo_mem {keep:List Int} {i:Nat} {L:List FileR} {x:FileR}:x∈zdq keep i L↔∃ j f,L[j]? = some f∧x=if j<i then zef keep j f else f:=by
 unfold zdq;rw[List.mem_iff_getElem?];constructor
 ·grind
 ·rintro ⟨j,f,hf,rfl⟩;exact⟨j,by simp_all⟩
theorem SortedR.idx {L:List FileR} (h:SortedR L) {i j:Nat} {f g:FileR} (hf:L[i]? = some f) (hg:L[j]? = some g) (e:f.name=g.name):i=j:=by
 obtain⟨h1,rfl⟩:=Yr.1 hf;obtain⟨h2,rfl⟩:=Yr.1 hg;have hp:=Yci.1 h
 rcases Nat.lt_trichotomy i j with h3|h3|h3
 ·have:=hp i j h1 h2 h3;rw[e,zcS] at this;cases this
 ·exact h3
 ·have:=hp j i h2 h1 h3;rw[←e,zcS] at this;cases this
theorem zxv {L L':List FileR} (h:SortedR L) (h':SortedR L') (hm:∀ x,x∈L↔x∈L'):L=L':=by
 have nd:∀ {L:List FileR},SortedR L→L.Nodup:=fun {L} h=>h.imp fun {x y} hxy e=>by rw[e,zcS] at hxy;cases hxy
 refine Yc2 (le:=fun (x y:FileR)=>zgG x.name y.name=true) (fun x y _ _ h1 h2=>?_) h h' ((List.perm_ext_iff_of_nodup (nd h) (nd h')).2 hm);have:=zp1 h1 h2;rw[zcS] at this;cases this
theorem zv7 {keep:List Int} {i:Nat} {L:List FileR} (h:SortedR L) {f:FileR} (hf:L[i]? = some f):zbk (zdq keep i L) (zef keep i f)=zdq keep (i+1) L:=by
 have s1:SortedR (zdq keep i L):=ziG h (ziF keep i L);have s2:SortedR (zdq keep (i+1) L):=ziG h (ziF keep (i+1) L)
 refine zxv (zfJ s1 _) s2 fun x=>?_
 rw[withR_mem,crashTo_mem,crashTo_mem];constructor
 ·rintro (rfl|⟨⟨j,g,hg,rfl⟩,hne⟩)
  ·grind
  ·refine⟨j,g,hg,?_⟩;by_cases hj:j<i
   ·rw[if_pos hj,if_pos (by omega)]
   ·rw[if_neg hj] at hne ⊢;rw[if_neg];intro hj2;have:j=i:=by omega
    subst this;rw[hf] at hg;cases hg;exact hne rfl
 ·rintro ⟨j,g,hg,rfl⟩;by_cases hj:j=i
  ·simp_all
  ·right
   have e:(if j<i+1 then zef keep j g else g)=if j<i then zef keep j g else g:=by
    by_cases hj2:j<i
    ·rw[if_pos hj2,if_pos oM]
    ·rw[if_neg hj2,if_neg oM]
   rw[e];refine⟨⟨j,g,hg,rfl⟩,fun e2=>hj (h.idx hg hf ?_)⟩;split at e2<;>exact e2
theorem zv8 (keep:List Int) (L:List FileR):zdq keep 0 L=L:=by
 unfold zdq;apply Ybl;intro j;rw[Yc0];cases L[j]? <;> simp
theorem zqc (keep:List Int) (L:List FileR):zdq keep L.length L=L.mapIdx fun i f=>zef keep i f:=by
 unfold zdq;apply Ybl;intro j;rw[Yc0,Yc0];cases hj:L[j]? with
 | none=>rfl
 | some f=>
  grind
theorem zr3:∀ {l:List Nat} {x:Nat},x∈l→x≤l.sum
 | y::r,x,h=>by
  rw[Ya5];rcases Yq.1 h with rfl|h
  ·omega
  ·have:=zr3 h;omega
theorem zq0 (keep:List Int) (i:Nat) (f:FileR):zke keep i f≤f.tail.size:=by
 unfold zke;split
 ·grind
 ·omega
theorem zDM (h:DAt M p b D es) (hr:RelD es D.l) (hI:InvD D) {ka:Option Addr} {kn kc:Nat} {keep:List Int} (hk:SrcOk (M.minus (zao p b es)) 1 ka kn (keep.map zj)) (hkn:kn≤4194304) :
  CallsM prog 18 [ptr p,.slice ka kn kc] M fun v M'=>v = .int .i64 0∧∃ es',StepD M M' p b es es' (zaR D keep):=by
 refine znN oS ?_;have hlen:=hI.len
 have hkl:=hk.maplen;refine zM (zmt h hr hI) ?_;rintro v M1 ⟨na,nc,rfl,hN⟩;have hle1:=hN.le
 obtain⟨B,hB⟩:=oI (M1.minus (zao p b es));have hBM:B.le M1:=hB▸Yac _ _
 have hkB:SrcOk B 1 ka kn (keep.map zj):=hk.le (fun y o hy=>by
  rw[hB];unfold Mem.minus at hy ⊢;split at hy
  ·cases hy
  ·rw[if_neg ‹_›];exact hle1 _ _ hy)
 have hnB:SrcOk B 1 na D.l.length ((D.l.map (·.name)).map zgk):=hB▸hN.src.minus fun q hq hb=>h.full hb (hN.block hq).1
 have hBn:∀ y,zao p b es y→B y=none:=fun y hy=>hB▸Yao hy
 refine zan (σ:=Nat×Mem×FsT) [14] (fun y=>[(14,.int .i64 y.1)]) (fun _=>[]) (fun y=>y.2.1)
  (fun|⟨i,Mc,ec⟩=>i≤D.l.length∧B.le Mc∧DAt Mc p b D ec∧RelD ec (zdq keep i D.l)∧(∀ y,zao p b ec y→zao p b es y)) (fun y=>D.l.length - y.1) ⟨0,M1,es⟩
  ⟨by omega,hBM,h.le hle1,by rw[zv8];exact hr,fun _ hy=>hy⟩ zS ?_
 rintro ⟨i,Mc,ec⟩ ⟨hi,hBc,hc,hrc,hoc⟩;refine brn (fun g=>?_) (fun g=>?_)
 ·have hlt:i<D.l.length:=by have:=Zd0 g;dsimp only at this;omega
  have hfi:D.l[i]? = some D.l[i]:=Yb hlt;obtain⟨hkx,bx,ox,hax,hrx⟩:=(hnB.le hBc).at (i:=i) hlt;have hnm:(D.l.map (·.name))[i]=D.l[i].name:=by simp
  rw[hnm] at hrx;generalize hf:D.l[i]=f at *;have hfm:zh (zdq keep i D.l) f.name=some f:=(zaw hrc.sort).2 ⟨crashTo_mem.2 ⟨i,f,hfi,by rw[if_neg (by omega)]⟩,rfl⟩
  refine ob (by omega) ?_;refine atp hax ?_;refine on hrx ?_;refine zK hc.self ?_;refine hc.map.get zqO f.name (fun hn=>?_) (fun x j hx=>?_)
  ·rw[hrc.none.1 hn] at hfm;cases hfm
  obtain⟨f',hf', -, hxp,hxs⟩:=hrc.get hx;rw[hfm] at hf';cases hf';have hxe:FXAt Mc x:=hc.ents _ (zC hx)
  have hxl:x.p.length=f.safe.size+f.tail.size:=by rw[hxp,FileR.all_size]
  have hfu:f.safe.size+f.tail.size≤1048576:=by
   have h1:f∈D.l:=Yak hfi;have h2:=hI.used
   unfold za0 at h2;have h3:=zr3 (Yj.2 ⟨f,h1,rfl⟩:f.safe.size+f.tail.size∈D.l.map fun f=>f.safe.size+f.tail.size)
   omega
  obtain⟨k,hkk⟩:=oI (zke keep i f);have hkt:=zq0 keep i f
  rw[←hkk] at hkt;refine brn (fun g1=>?_) (fun g1=>?_)
  rotate_left
  have hik:¬i<kn:=by have:=Zd1 g1;dsimp only at this;omega
  have hk0:k=0:=by rw[hkk];unfold zke;rw[Yb0 oM]
  erw [show (0:Int)=(k:Int) from by omega]
  rotate_left
  have hik:i<kn:=by have:=Zd0 g1;dsimp only at this;omega
  obtain⟨hky,by',oy,hay,hry⟩:=(hkB.le hBc).at (i:=i) hik;have hkv:keep[i]? = some keep[i]:=Yb hky
  generalize keep[i]=v at *;refine ob (by omega) ?_;refine atp hay ?_;refine on hry ?_;refine on (hxe.self.c1 rfl) ?_;refine on (hxe.self.c1 rfl) ?_;refine obr (inR_i64 oM) ?_;(conv=>whnf)
  erw [show max 0 (min v ((x.p.length:Int) - x.safe))=(k:Int) from by
   rw[hkk,hxl,hxs];unfold zke;rw[hkv];dsimp only
   split<;>omega]
  all_goals
   refine zK hxe.self ?_;refine obr (inR_i64 (by omega)) ?_;refine on hxe.self.cells ?_;refine ob oS ?_
   have hk2:Mem.keep (fun y=>y=x.f) Mc (Mc.setCells x.f 120 [.slice x.a x.p.length x.c,.int .i64 (x.safe+k)]):=fun y o hy ho=>by
    unfold Mem.setCells;rw[Yg _ _ hy];exact ho
   have hs2:(Mc.setCells x.f 120 [.slice x.a x.p.length x.c,.int .i64 (x.safe+k)]).has x.f 120 [.slice x.a x.p.length x.c,.int .i64 (x.safe+k)]:=Ye;have hse:∀ (cs:List Value),(Mc.setCells x.f 120 [.slice x.a x.p.length x.c,.int .i64 (x.safe+k)]).setCells x.f 120 cs=Mc.setCells x.f 120 cs:=fun cs=>Mem.setCells_setCells ..
   obtain⟨M2,hM2⟩:=oI (Mc.setCells x.f 120 [.slice x.a x.p.length x.c,.int .i64 (x.safe+k)]);rw[←hM2] at hk2 hs2 hse;erw [←hM2];have hrow:=hxe.row
   have hsub:=Wr.subA0 hrow;have hrow':=hrow
   unfold Wr at hrow';refine zR ?_;refine on (hs2.c1 rfl) ?_;refine on (hs2.c1 rfl) ?_;refine ob ⟨by decide,by omega,by omega⟩ ?_;refine⟨?_,True.intro⟩;refine on hs2.cells ?_;refine ob oS ?_;obtain⟨x',hx'⟩:∃ x':FX,x'=⟨x.f,x.a,x.c,x.p.take (x.safe+k),x.safe+k⟩:=⟨_,rfl⟩
   have hlen':x'.p.length=x.safe+k:=by rw[hx'];simp;rw[hxs,hxl];omega
   have hrow2:Wr Mc 5 1 x'.a x'.p.length x'.c (x'.p.map zc):=by
    rw[hlen',hx'];unfold Wr;obtain⟨w1,w2,w3⟩:=hrow';refine⟨by simp_all,by grind,w3.imp id fun ⟨bb,cs,e1,e2,e3,e4⟩=>⟨bb,cs,e1,e2,e3,?_⟩⟩;rw[Ybk] at e4 ⊢;rw[List.map_take,←e4,Ybx,Ybh (by rw[hxs,hxl];omega)]
   obtain⟨h3,hk3,ho3⟩:=hc.setFile (x':=x') hx (by rw[hx']) hrow2 (fun y hy=>by simp_all) rfl
   have hcells:[Value.slice x'.a x'.p.length x'.c,.int .i64 x'.safe]=[.slice (subA x.a 0 x.c 1) (((x.safe:Int)+k).toNat - 0) (x.c - 0),.int .i64 (x.safe+k)]:=by
    rw[hsub,hlen',hx',Yb3,Yb3];have:((x.safe:Int)+k).toNat=x.safe+k:=by omega
    rw[this];rfl
   rw[hcells,←hse] at h3 hk3;obtain⟨M3,hM3⟩:=oI (M2.setCells x.f 120 [.slice (subA x.a 0 x.c 1) (((x.safe:Int)+k).toNat - 0) (x.c - 0),.int .i64 (x.safe+k)]);rw[←hM3] at h3 hk3;erw [←hM3];refine zR ?_;refine obr (inR_i64 (by omega)) ?_;have hxin:∀ y,y=x.f→zao p b es y:=fun y e=>hoc y (.inr (.inr ⟨_,zC hx,.inl e⟩))
   refine⟨⟨i+1,M3,zy ec f.name x'⟩,⟨by omega,hk3.le hBc (fun y e=>hBn y (hxin y e)),h3,?_,fun y hy=>hoc y (ho3 y hy)⟩,by omega,zS⟩;rw[←zv7 hI.sort hfi];refine hrc.put (x:=x') (f:=zef keep i f) ?_;rw[hx'];simp only[cont,FileR.all,zef,Yb6,←hkk];constructor
   ·rw[zaO,show bl ByteArray.empty=[] from rfl,Ys,zaO,zdI,hxp,FileR.all,zaO,hxs];rw[←za4 f.safe,Yct]
   ·rw[hxs,←za4 (f.safe++f.tail.extract 0 k),zaO,zdI,Yi,Ya9,za4,za4];omega
 have hge:i=D.l.length:=by have:=Zd1 g;dsimp only at this;omega
 subst hge;rw[zqc] at hrc;refine zR ?_;refine on hc.self.cells ?_;refine ob oS ?_
 have hk2:Mem.keep (fun y=>y=p) Mc (Mc.setCells p 99 [.int .i64 D.limit,.map (some b),.int .i64 D.left,.bool false]):=fun y o hy ho=>by
  unfold Mem.setCells;rw[Yg _ _ hy];exact ho
 have hs2:(Mc.setCells p 99 [.int .i64 D.limit,.map (some b),.int .i64 D.left,.bool false]).has p 99 [.int .i64 D.limit,.map (some b),.int .i64 D.left,.bool false]:=Ye;obtain⟨M2,hM2⟩:=oI (Mc.setCells p 99 [.int .i64 D.limit,.map (some b),.int .i64 D.left,.bool false]);rw[←hM2] at hs2 hk2;erw [←hM2];refine zR ?_;refine on hs2.cells ?_;refine ob oS ?_
 have hk3:Mem.keep (fun y=>y=p) M2 (M2.setCells p 99 [.int .i64 D.limit,.map (some b),.int .i64 (-1),.bool false]):=fun y o hy ho=>by
  unfold Mem.setCells;rw[Yg _ _ hy];exact ho
 have h3:=hc.head (zaR D keep) (Y9 hk2 hk3) Ye;obtain⟨M3,hM3⟩:=oI (M2.setCells p 99 [.int .i64 D.limit,.map (some b),.int .i64 (-1),.bool false]);rw[←hM3] at hk3 h3;erw [←hM3];refine zR ?_;have hkk:=Y9 hk2 hk3
 refine⟨rfl,ec,h3,hrc,fun y o hy ho=>?_,fun y hy => .inl (hoc y hy)⟩;refine hkk _ _ (fun e=>hy (.inl e)) (hBc _ _ ?_);rw[hB];unfold Mem.minus;rw[if_neg hy];exact hle1 _ _ ho
end
end Go.Proofs.YtlgbofpennelhaaGreat
namespace Go.Proofs.YtlgbofpennelhaaGreat
open Go Go.Vm
variable {D:ze}
theorem zxw {s:ByteArray} (h:za5 D s=0):D.down=false∧zbX s=true:=by
 unfold za5 at h;split at h
 ·cases h
 ·simp_all
theorem zcA {s:ByteArray} (h:zaH D s=0):za5 D s=0∧zh D.l s=some (zt D s):=by
 unfold zaH at h;split at h
 ·omega
 ·rename_i g;split at h
  ·cases h
  ·rename_i hf;refine⟨by omega,?_⟩;obtain⟨f,hf'⟩:=Yba.1 hf;rw[hf'];unfold zt;rw[hf'];rfl
theorem InvD.with (h:InvD D) {f:FileR} (hl:zh D.l f.name=none→D.l.length<64) (hu:za0 (zba D.l f.name)+(f.safe.size+f.tail.size)≤1048576):SortedR (zbk D.l f)∧(zbk D.l f).length≤64∧za0 (zbk D.l f)≤1048576:=by
 refine⟨zfJ h.sort f,?_,?_⟩
 ·rw[zbk,zh5];cases hf:zh D.l f.name with
  | none=>rw[zfK hf];have:=hl hf;omega
  | some x=>have:=(zcx h.sort hf).1;have:=h.len;omega
 ·rw[zbk,zkd];omega
theorem InvD.changed (h:InvD D) {l:List FileR} (h1:SortedR l∧l.length≤64∧za0 l≤1048576):InvD (zbq D l):=by
 refine⟨h1.1,h1.2.1,h1.2.2,h.limit,?_⟩;have:=h.left
 unfold zbq;dsimp only;split<;>omega
theorem InvD.without (h:InvD D) (s:ByteArray):SortedR (zba D.l s)∧(zba D.l s).length≤64∧za0 (zba D.l s)≤1048576:=by
 refine⟨zfz h.sort s,Yn (Yar _ _) h.len,?_⟩;cases hf:zh D.l s with
 | none=>rw[zfK hf];exact h.used
 | some x=>have:=(zcx h.sort hf).2;have:=h.used;omega
theorem zv9 {limit:Int} (h:¬(limit<1∨1048576<limit)):InvD ⟨limit,[], -1,false⟩:=
 ⟨by simp[SortedR],by simp,by simp[za0],by grind,by simp⟩
theorem zqd (h:InvD D) (s:ByteArray) (p:List UInt8):InvD (zay D s p).1:=by
 unfold zay;split
 ·exact h
 ·split
  ·exact h
  ·rename_i h1 h2;have hu:=h.used
   have hlim:=h.limit;refine h.changed (h.with (fun hf=>?_) ?_)
   ·simp_all
   ·dsimp only;have hsz:((zt D s).tail++(⟨p.toArray⟩:ByteArray)).size=(zt D s).tail.size+p.length:=by rw[←za4,zaO,Yi,za4,zlZ]
    rw[hsz];cases hf:zh D.l s with
    | none=>
     rw[zfK hf];have:zt D s=⟨s,.empty,.empty⟩:=by unfold zt;rw[hf];rfl
     rw[this];have:ByteArray.empty.size=0:=rfl
     dsimp only;omega
    | some x=>
     have:zt D s=x:=by unfold zt;rw[hf];rfl
     rw[this];have:=(zcx h.sort hf).2
     omega
theorem all_size (f:FileR):f.all.size=f.safe.size+f.tail.size:=by rw[←za4,FileR.all_size]
theorem InvD.there (h:InvD D) {s:ByteArray} (h0:zaH D s=0) {f:FileR} (hn:f.name=s) (hs:f.safe.size+f.tail.size≤(zt D s).safe.size+(zt D s).tail.size):SortedR (zbk D.l f)∧(zbk D.l f).length≤64∧za0 (zbk D.l f)≤1048576:=by
 have hf:=(zcA h0).2;refine h.with (fun hn'=>?_) ?_
 ·simp_all
 ·rw[hn];have:=(zcx h.sort hf).2
  have:=h.used;omega
theorem zoo (h:InvD D) (s:ByteArray):InvD (zbM D s).1:=by
 unfold zbM;split
 ·exact h
 ·rename_i h0;refine h.changed (h.there (by simp_all) rfl ?_);have:ByteArray.empty.size=0:=rfl
  dsimp only;rw[all_size];omega
theorem zwa (h:InvD D) (s:ByteArray) (k:Int):InvD (zcC D s k).1:=by
 unfold zcC;split
 ·exact h
 ·split
  ·exact h
  ·rename_i h0 _;refine h.changed (h.there (by simp_all) rfl ?_);have:ByteArray.empty.size=0:=rfl
   dsimp only;have:((zt D s).all.extract 0 k.toNat).size≤(zt D s).all.size:=by rw[←za4,←za4,zdI,Ya9];omega
   rw[all_size] at this;omega
theorem zer (h:InvD D) (s:ByteArray):InvD (zae D s).1:=by
 unfold zae;split
 ·exact h
 ·exact h.changed (h.without s)
theorem zwb (h:InvD D) {k:Int} (hk:k≤9223372036854775807):InvD (zeI D k).1:=by
 unfold zeI;split
 ·exact h
 ·exact⟨h.sort,h.len,h.used,h.limit,by grind⟩
theorem zjF (keep:List Int):(zaR D keep).l.map (·.name)=D.l.map (·.name):=by
 have:=ziF keep D.l.length D.l
 rwa [zqc] at this
theorem zqe (keep:List Int):za0 (zaR D keep).l≤za0 D.l:=by
 unfold zaR za0;dsimp only
 have:∀ (l:List FileR) (g:Nat→FileR→FileR),(∀ i f,(g i f).safe.size+(g i f).tail.size≤f.safe.size+f.tail.size)→((l.mapIdx g).map fun f=>f.safe.size+f.tail.size).sum≤(l.map fun f=>f.safe.size+f.tail.size).sum:=fun l=>by
  induction l with
  | nil=>simp
  | cons x r ih=>
   grind
 refine this _ _ fun i f=>?_
 have h1:=zq0 keep i f;have e0:ByteArray.empty.size=0:=rfl
 unfold zef;dsimp only;rw[←za4 (f.safe++f.tail.extract 0 (zke keep i f)),zaO,zdI,Yi,Ya9,za4,za4];omega
theorem zmu (h:InvD D) (keep:List Int):InvD (zaR D keep):=by
 refine⟨ziG h.sort (zjF keep),?_,Yn (zqe keep) h.used,h.limit,by unfold zaR;dsimp only;omega⟩;have:=congrArg List.length (zjF (D:=D) keep)
 simp only[Ya3] at this;rw[this];exact h.len
end Go.Proofs.YtlgbofpennelhaaGreat
namespace Go.Proofs.YtlgbofpennelhaaGreat
open Go Go.Vm Go.Proofs.Tryz
attribute [local irreducible] Brn Ob Grow CallsM inR zX zI Mem.row Mem.cells Mem.setCells Mem.upd Go.Vm.Own zac zar zas zab New SrcOk subA NewSl Mem.textAt Mem.mapAt Mem.iterAt zH zF Wr NewEls Elems
set_option maxRecDepth 10000
variable {M M0:Mem} {p b:Nat} {D:ze} {es:FsT}
structure FreshD (M0 M:Mem) (p b:Nat) (D:ze) (es:FsT):Prop where
 le:M0.le M
 at':DAt M p b D es
 rel:RelD es D.l
 inv:InvD D
 fresh:∀ y,zao p b es y→M0 y=none
theorem FreshD.to (h:FreshD M0 M p b D es) {M':Mem} (hle:M.le M'):FreshD M0 M' p b D es:=⟨Yc h.le hle,h.at'.le hle,h.rel,h.inv,h.fresh⟩
theorem FreshD.base (h:FreshD M0 M p b D es):FreshD (M.minus (zao p b es)) M p b D es∧M0.le (M.minus (zao p b es)):=
 ⟨⟨Yac _ _,h.at',h.rel,h.inv,fun _ hy=>Yao hy⟩,Ybw h.le h.fresh⟩
theorem FreshD.step (h:FreshD M0 M p b D es) {M':Mem} {es':FsT} {D':ze} (hs:StepD M M' p b es es' D') (hi:InvD D'):FreshD M0 M' p b D' es':=
 ⟨hs.keep.le h.le h.fresh,hs.at',hs.rel,hi,fun y hy=>by
  rcases hs.own y hy with h1|h1
  ·exact h.fresh y h1
  ·cases e:M0 y with
   | none=>rfl
   | some z=>rw[h.le _ _ e] at h1;cases h1⟩
theorem zz0 (limit:Int):CallsM prog 15 [.int .i64 limit] M fun v M'=>
  ((limit<1∨1048576<limit)∧v = .tuple #[.pointer none,.int .i64 1]∧M'=M) ∨
  (¬(limit<1∨1048576<limit)∧∃ p b,v = .tuple #[ptr p,.int .i64 0]∧FreshD M M' p b ⟨limit,[], -1,false⟩ []):=
 (zFW limit).mono fun v M' h=>by
  rcases h with h|⟨h1,p,b,h2,h3,h4,h5⟩
  ·exact .inl h
  ·exact .inr ⟨h1,p,b,h2,h3,h4,RelD.nil,zv9 h1,h5⟩
theorem zs4 (h:FreshD M0 M p b D es) {s:ByteArray} (hs:s.size≤4611686018427387904) {a:Option Addr} {n c:Nat} {l:List UInt8} (hl:SrcOk M 1 a n (l.map zc)) :
  CallsM prog 207 [ptr p,.string s,.slice a n c] M fun v M'=>∃ es',v = .int .i64 (zay D s l).2∧FreshD M0 M' p b (zay D s l).1 es':=
 (zBk h.at' h.rel h.inv s hs hl).mono fun _ _ ⟨hv,es',h'⟩=>⟨es',hv,h.step h' (zqd h.inv s l)⟩
theorem zI6 (h:FreshD M0 M p b D es) {s:ByteArray} (hs:s.size≤4611686018427387904):CallsM prog 210 [ptr p,.string s] M fun v M'=>∃ es',v = .int .i64 (zbM D s).2∧FreshD M0 M' p b (zbM D s).1 es':=
 (zGm h.at' h.rel h.inv s hs).mono fun _ _ ⟨hv,es',h'⟩=>⟨es',hv,h.step h' (zoo h.inv s)⟩
theorem zJ8 (h:FreshD M0 M p b D es) {s:ByteArray} (hs:s.size≤4611686018427387904) (k:Int):CallsM prog 298 [ptr p,.string s,.int .i64 k] M fun v M'=>∃ es',v = .int .i64 (zcC D s k).2∧FreshD M0 M' p b (zcC D s k).1 es':=
 (zHY h.at' h.rel h.inv s hs k).mono fun _ _ ⟨hv,es',h'⟩=>⟨es',hv,h.step h' (zwa h.inv s k)⟩
theorem zyp (h:FreshD M0 M p b D es) {s:ByteArray} (hs:s.size≤4611686018427387904):CallsM prog 148 [ptr p,.string s] M fun v M'=>∃ es',v = .int .i64 (zae D s).2∧FreshD M0 M' p b (zae D s).1 es':=
 (zBW h.at' h.rel h.inv s hs).mono fun _ _ ⟨hv,es',h'⟩=>⟨es',hv,h.step h' (zer h.inv s)⟩
theorem zJ9 (h:FreshD M0 M p b D es) {k:Int} (hk:k≤9223372036854775807):CallsM prog 17 [ptr p,.int .i64 k] M fun v M'=>∃ es',v = .int .i64 (zeI D k).2∧FreshD M0 M' p b (zeI D k).1 es':=
 (zHZ h.at' h.rel k).mono fun _ _ ⟨hv,h'⟩=>⟨es,hv,h.step h' (zwb h.inv hk)⟩
theorem zGq (h:FreshD M0 M p b D es) {ka:Option Addr} {kn kc:Nat} {keep:List Int} (hk:SrcOk M0 1 ka kn (keep.map zj)) (hkn:kn≤4194304) :
  CallsM prog 18 [ptr p,.slice ka kn kc] M fun v M'=>∃ es',v = .int .i64 0∧FreshD M0 M' p b (zaR D keep) es':=
 (zDM h.at' h.rel h.inv (hk.le h.base.2) hkn).mono fun _ _ ⟨hv,es',h'⟩=>⟨es',hv,h.step h' (zmu h.inv keep)⟩
theorem zFn (h:FreshD M0 M p b D es) {s:ByteArray} (hs:s.size≤4611686018427387904):CallsM prog 150 [ptr p,.string s] M fun v M'=>∃ a n c,v = .tuple #[.slice a n c,.int .i64 (zax D s).2]∧n=(bl (zax D s).1).length∧NewSl M 5 1 a n c ((bl (zax D s).1).map zc) M':=
 zGn h.at' h.rel h.inv s hs
def zgM (D:ze) (s:ByteArray):Nat:=match zh D.l s with|some f=>f.safe.size|none=>0
theorem zFo (h:FreshD M0 M p b D es) (s:ByteArray):CallsM prog 209 [ptr p,.string s] M fun v M'=>v = .int .i64 (zgM D s)∧M=M':=
 (zGo h.at' h.rel s).mono fun _ _ ⟨hv,h'⟩=>⟨by rw[hv];unfold zgM;cases zh D.l s<;>rfl,h'⟩
end Go.Proofs.YtlgbofpennelhaaGreat
namespace Go.Proofs.YtlgbofpennelhaaGreat
open Go Go.Vm
theorem zr4 (x:Nat) (s:Nat):(zbC (x:Int) (s:Int)).toNat=x / 2 ^ s % 256:=by
 unfold zbC
 have e:((x:Int).fdiv (2 ^ ((s:Int)).toNat))=((x / 2 ^ s:Nat):Int):=by
  rw[Yb7 _ (by exact_mod_cast Y6 (2 ^ s)),Yc8]
  norm_cast
 rw[e];have:(((x / 2 ^ s:Nat):Int) % 256).toNat=x / 2 ^ s % 256:=by omega
 rw[this];simp
theorem zs5 {x:Nat} (h:x<4294967296):num (be 4 (x:Int)) 0=x:=by
 have e:be 4 (x:Int)=[zbC (x:Int) ((24:Nat):Int),zbC (x:Int) ((16:Nat):Int),zbC (x:Int) ((8:Nat):Int),zbC (x:Int) ((0:Nat):Int)]:=rfl;rw[e];simp only[num,zr4];omega
theorem zyq {l:List UInt8} (h:l.length=4):be 4 ((num l 0:Nat):Int)=l:=by
 match l,h with
 | [a,b,c,d],_=>
  have e:be 4 ((num [a,b,c,d] 0:Nat):Int)=[zbC ((num [a,b,c,d] 0:Nat):Int) ((24:Nat):Int),zbC ((num [a,b,c,d] 0:Nat):Int) ((16:Nat):Int),zbC ((num [a,b,c,d] 0:Nat):Int) ((8:Nat):Int),zbC ((num [a,b,c,d] 0:Nat):Int) ((0:Nat):Int)]:=rfl;rw[e];have h1:=a.toNat_lt;have h2:=b.toNat_lt;have h3:=c.toNat_lt;have h4:=d.toNat_lt
  have key:∀ (s:Nat) (z:UInt8),num [a,b,c,d] 0 / 2 ^ s % 256=z.toNat→zbC ((num [a,b,c,d] 0:Nat):Int) (s:Int)=z:=fun s z hz=>by
   apply UInt8.toNat_inj.1;rw[zr4,hz]
  simp only[List.cons.injEq,and_true];refine⟨key 24 a ?_,key 16 b ?_,key 8 c ?_,key 0 d ?_⟩<;>simp only[num]<;>omega
def zcV (p:List UInt8):Prop:=1≤p.length∧p.length≤65536
theorem zdV (p:List UInt8):(zam p).length=8+p.length:=by unfold zam;simp[zcI];omega
theorem sum_nat (l:List UInt8):∃ q:Nat,zho l=(q:Int)∧q<4294967296:=⟨(zho l).toNat,by rfl,by have:=zlX l;omega⟩
theorem zr5 {p:List UInt8} (h:zcV p) (r:List UInt8):zaS (zam p++r)=some (p,8+p.length):=by
 obtain⟨q,hq,hq2⟩:=sum_nat (be 4 p.length++p);have e:zam p=be 4 p.length++be 4 (q:Int)++p:=by unfold zam;rw[hq]
 have l1:(be 4 (p.length:Int)).length=4:=zcI 4 _;have l2:(be 4 (q:Int)).length=4:=zcI 4 _
 have t1:(zam p++r).take 4=be 4 p.length:=by rw[e,Yp,Yp,Y5 oM,Yf oM]
 have t2:((zam p++r).drop 4).take 4=be 4 (q:Int):=by
  rw[e,Yp,Yp,Ybq oM,Yaf oM,Y1,Y5 oM,Yf oM]
 have t3:(zam p++r).drop 8=p++r:=by
  have:(be 4 (p.length:Int)++be 4 (q:Int)).length=8:=by simp[l1,l2]
  rw[e,Yp,Ybq oM,Yaf oM,Y1]
 have hk:num (be 4 (p.length:Int)) 0=p.length:=zs5 (by have:=h.2;omega);have hl:(zam p++r).length=8+p.length+r.length:=by rw[Yi,zdV]
 unfold zaS;rw[t1,t2,t3,hk,hl,zs5 hq2,Y5 (Yd _),Yai,if_neg oM,if_neg (by have:=h.1;have:=h.2;omega),if_pos hq]
theorem zz1 {l p:List UInt8} {k:Nat} (h:zaS l=some (p,k)):l.take k=zam p∧zcV p:=by
 obtain⟨h1,h2,h3,h4,h5⟩:=zem h;refine⟨?_,h3,h4⟩;unfold zaS at h;split at h
 ·cases h
 ·rename_i g8;split at h
  ·cases h
  ·rename_i g;split at h
   ·rename_i hs;simp only[Y3,Yb6] at h;obtain⟨h6,h7⟩:=h;have hk:num (l.take 4) 0=p.length:=by omega
    rw[h6] at hs;have e1:be 4 ((p.length:Nat):Int)=l.take 4:=by rw[←hk];exact zyq (by grind)
    have e2:be 4 (zho (be 4 (p.length:Int)++p))=(l.drop 4).take 4:=by rw[e1,hs];exact zyq (by grind)
    unfold zam;rw[e2,e1]
    have a1:l.take k=l.take 4++((l.drop 4).take 4++(l.drop 8).take p.length):=by
     have:k=4+(4+p.length):=by omega
     rw[this,List.take_add,List.take_add,Ybs]
    rw[a1,←h5,Yp]
   ·cases h
theorem zwc {p:List UInt8} (h:zcV p) {k:Nat} (hk:k<8+p.length):zaS ((zam p).take k)=none:=by
 have hlen:((zam p).take k).length=k:=by rw[Ya9,zdV];omega
 unfold zaS;rw[hlen];split
 ·rfl
 ·rename_i g
  have t1:((zam p).take k).take 4=be 4 p.length:=by
   rw[Ybx,Ybh oM];unfold zam;rw[Yp,Y5 (by rw[zcI];omega),Yf (by rw[zcI];omega)]
  rw[t1,zs5 (by have:=h.2;omega),if_pos (.inr (.inr oM))]
def zbo (ps:List (List UInt8)):List UInt8:=ps.flatMap zam
theorem zdN (ps:List (List UInt8)):(zbo ps).length=zap ps:=by
 induction ps with
 | nil=>rfl
 | cons p r ih=>simp only[zbo,Ybr,Yi,zdV,zap,Yv,Ya5] at ih ⊢; rw[ih]
theorem zjG (ps qs:List (List UInt8)):zbo (ps++qs)=zbo ps++zbo qs:=by simp[zbo]
theorem zz2 {ps:List (List UInt8)} (h:∀ p∈ps,zcV p) (r:List UInt8):zaK (zbo ps++r)=ps++zaK r:=by
 induction ps with
 | nil=>rfl
 | cons p qs ih=>
  have e:zbo (p::qs)++r=zam p++(zbo qs++r):=by simp[zbo]
  rw[e,zi2 (zr5 (h p oS) _),←zdV,List.drop_left,ih fun q hq=>h q (by simp[hq])];rfl
theorem zxx {p:List UInt8} (h:zcV p) {k:Nat} (hk:k<8+p.length):zaK ((zam p).take k)=[]:=zi1 (zwc h hk)
theorem zBX {ps:List (List UInt8)} (h:∀ p∈ps,zcV p) {m:Nat} (hm:m≤zap ps):∃ j,j≤ps.length∧zaK ((zbo ps).take m)=ps.take j∧zap (ps.take j)≤m∧∀ i,i≤ps.length→zap (ps.take i)≤m→i≤j:=by
 induction ps generalizing m with
 | nil=>exact⟨0,Yd _,by simp[zbo,zaK,zf4],by simp[zap],fun i hi _=>by omega⟩
 | cons p qs ih=>
  have hp:=h p oS;have e:zbo (p::qs)=zam p++zbo qs:=by simp[zbo]
  have el:zap (p::qs)=(8+p.length)+zap qs:=by simp[zap]
  by_cases hlt:m<8+p.length
  ·refine⟨0,Y6 _,?_,by simp[zap],fun i hi hle=>?_⟩
   ·rw[e,Y5 (by rw[zdV];omega),zxx hp hlt];rfl
   ·cases i with
    | zero=>omega
    | succ i=>
     rw[Ybz] at hle;have:zap (p::qs.take i)=(8+p.length)+zap (qs.take i):=by simp[zap]
     omega
  ·obtain⟨j,h1,h2,h3,h4⟩:=ih (fun q hq=>h q (by simp[hq])) (m:=m - (8+p.length)) oM;refine⟨j+1,by simp;omega,?_,?_,fun i hi hle=>?_⟩
   ·have em:m=(zam p).length+(m - (8+p.length)):=by rw[zdV];omega
    rw[e,em,Yct,zi2 (zr5 hp _),←zdV,List.drop_left];rw[zdV,h2];rfl
   ·rw[Ybz];have:zap (p::qs.take j)=(8+p.length)+zap (qs.take j):=by simp[zap]
    omega
   ·cases i with
    | zero=>omega
    | succ i=>
     rw[Ybz] at hle;have:zap (p::qs.take i)=(8+p.length)+zap (qs.take i):=by simp[zap]
     have:=h4 i (by simpa using hi) oM;omega
theorem zop:∀ (m:Nat) (l:List UInt8),l.length≤m→l.take (zap (zaK l))=zbo (zaK l)∧(∀ p∈zaK l,zcV p)∧zap (zaK l)≤l.length:=by
 intro m
 induction m with
 | zero=>
  intro l hl;have h0:zaS l=none:=by unfold zaS;rw[if_pos oM]
  rw[zi1 h0];exact⟨by rfl,by simp,by simp[zap]⟩
 | succ m ih=>
  intro l hl;cases hx:zaS l with
  | none=>
   rw[zi1 hx];exact⟨by rfl,by simp,by simp[zap]⟩
  | some q=>
   obtain⟨p,k⟩:=q;obtain⟨h1,h2,h3, -⟩:=zem hx;obtain⟨h5,h6⟩:=zz1 hx;obtain⟨h7,h8,h9⟩:=ih (l.drop k) (by grind);rw[zi2 hx];have el:zap (p::zaK (l.drop k))=k+zap (zaK (l.drop k)):=by simp[zap];omega
   rw[Ydh] at h9;refine⟨?_,fun q hq=>?_,by omega⟩
   ·rw[el,List.take_add,h5,h7];simp[zbo]
   ·grind
end Go.Proofs.YtlgbofpennelhaaGreat
namespace Go.Proofs.YtlgbofpennelhaaGreat
open Go Go.Vm Go.Proofs.Tryz
attribute [local irreducible] Brn Ob Grow CallsM inR zX zI Mem.row Mem.cells Mem.setCells Mem.upd Go.Vm.Own zac zar zas zab New SrcOk subA NewSl Mem.textAt Mem.mapAt Mem.iterAt zH zF Wr NewEls Elems
set_option maxRecDepth 10000
section
variable {M M0:Mem} {g p b:Nat} {D:ze} {es:FsT}
structure zaM where
 first:Int
 last:Int
 size:Int
 failed:Bool
def zc0 (D:ze) (k:Int):Nat:=if D.down=true then zgM D (zb k) else (zax D (zb k)).1.size
def zdr (L:zaM) (e:Int):zaM:={ L with failed:=L.failed||decide (e=9) }
def syncL (D:ze) (L:zaM):ze×zaM×Int:=
 if L.failed=true then (D,L,7) else if D.down=true then (D,zdr L 9,9) else if zc0 D L.last=zgM D (zb L.last) then (D,L,0)
 else ((zbM D (zb L.last)).1,zdr L (zbM D (zb L.last)).2,(zbM D (zb L.last)).2)
def beginL (D:ze) (L:zaM):ze×zaM×Int×Int:=
 if (syncL D L).2.2≠0 then ((syncL D L).1,(syncL D L).2.1,0,(syncL D L).2.2)
 else if zc0 (syncL D L).1 L.last=0 then ((syncL D L).1,(syncL D L).2.1,L.last,0)
 else if L.last=99999 then ((syncL D L).1,(syncL D L).2.1,0,1)
 else ((syncL D L).1,{ (syncL D L).2.1 with last:=L.last+1 },L.last+1,0)
def zz3 (D:ze) (L:zaM) (n:Nat):Prop:=0<zc0 D L.last∧L.size - zc0 D L.last<n
instance (D:ze) (L:zaM) (n:Nat):Decidable (zz3 D L n):=inferInstanceAs (Decidable (_∧_))
def zbO (D:ze) (L:zaM) (n:Nat):ze×zaM×Int:=if zz3 D L n then ((beginL D L).1,(beginL D L).2.1,(beginL D L).2.2.2) else (D,L,0)
def zaf (D:ze) (L:zaM) (q:List UInt8):ze×zaM×Int:=
 if L.failed=true then (D,L,7) else if zgj q≠0 then (D,L,zgj q) else if D.down=true then (D,zdr L 9,9)
 else if (zbO D L (zam q).length).2.2≠0 then zbO D L (zam q).length
 else ((zay (zbO D L (zam q).length).1 (zb (zbO D L (zam q).length).2.1.last) (zam q)).1,
  zdr (zbO D L (zam q).length).2.1 (zay (zbO D L (zam q).length).1 (zb (zbO D L (zam q).length).2.1.last) (zam q)).2,
  (zay (zbO D L (zam q).length).1 (zb (zbO D L (zam q).length).2.1.last) (zam q)).2)
@[reducible] def zgN (p:Nat) (L:zaM):List Value:=[ptr p,.int .i64 L.first,.int .i64 L.last,.int .i64 L.size,.bool L.failed]
structure LogAt (M0 M:Mem) (g p b:Nat) (D:ze) (es:FsT) (L:zaM):Prop where
 disk:FreshD M0 M p b D es
 self:M.has g 328 (zgN p L)
 fresh:M0 g=none
theorem DAt.notB (h:DAt M p b D es) {g:Nat} {l:List Value} (hg:M.has g 328 l):¬zao p b es g:=by
 rintro (e|e|⟨q,hq,e|⟨a,ha,e⟩⟩)
 ·subst e;exact absurd (h.self.inj hg).1 oD
 ·exact h.map.nb hg e
 ·subst e;exact absurd ((h.ents q hq).self.inj hg).1 oD
 ·obtain⟨cs,hh⟩:=(h.ents q hq).row.block ha;subst e;exact absurd (hh.inj hg).1 oD
theorem FreshD.mono {M1:Mem} (h:FreshD M1 M p b D es) (hle:M0.le M1):FreshD M0 M p b D es:=⟨Yc hle h.le,h.at',h.rel,h.inv,fun y hy=>by
 cases e:M0 y with
 | none=>rfl
 | some z=>have:=hle _ _ e;rw[h.fresh y hy] at this;cases this⟩
theorem LogAt.to {L:zaM} (h:LogAt M0 M g p b D es L) {M':Mem} (hle:M.le M'):LogAt M0 M' g p b D es L:=⟨h.disk.to hle,h.self.le hle,h.fresh⟩
theorem LogAt.call {L:zaM} (h:LogAt M0 M g p b D es L) {M':Mem} {D':ze} {es':FsT} (h':FreshD (M.minus (zao p b es)) M' p b D' es'):LogAt M0 M' g p b D' es' L:=by
 have hg:(M.minus (zao p b es)).has g 328 (zgN p L):=by
  have:=h.self;unfold Mem.has at this ⊢;unfold Mem.minus;rw[if_neg (h.disk.at'.notB h.self)];exact this
 exact⟨h'.mono h.disk.base.2,hg.le h'.le,h.fresh⟩
theorem LogAt.set {L:zaM} (h:LogAt M0 M g p b D es L) (L':zaM):LogAt M0 (M.setCells g 328 (zgN p L')) g p b D es L':=by
 have hk:Mem.keep (fun y=>y=g) M (M.setCells g 328 (zgN p L')):=fun y o hy ho=>by
  unfold Mem.setCells;rw[Yg _ _ hy];exact ho
 refine⟨⟨hk.le h.disk.le (fun y hy=>by rw[hy];exact h.fresh),h.disk.at'.mono fun y o hy ho=>hk y o (fun e=>?_) ho,h.disk.rel,h.disk.inv,h.disk.fresh⟩,Ye,h.fresh⟩;rw[e] at hy;exact h.disk.at'.notB h.self hy
theorem zeX (k:Int):(zb k).size≤4611686018427387904:=by
 unfold zb;split
 ·simp
 ·show (6:Nat)≤_;decide
theorem ztR {L:zaM} (h:M.has g 328 (zgN p L)):CallsM prog 202 [ptr g] M fun v M'=>v = .int .i64 (if L.failed=true then 7 else 0)∧M=M':=by
 refine zqA oS ?_;obtain⟨fi,la,sz,fl⟩:=L;cases fl
 ·refine zW h ?_;exact⟨rfl,rfl⟩
 ·refine zW h ?_;exact⟨rfl,rfl⟩
theorem zhY {L:zaM} (h:LogAt M0 M g p b D es L) (e:Int):CallsM prog 204 [ptr g,.int .i64 e] M fun v M'=>v = .int .i64 e∧LogAt M0 M' g p b D es (zdr L e):=by
 refine zrE oS ?_;have h':=h.set (zdr L e)
 have hs:=h.self;clear h;obtain⟨fi,la,sz,fl⟩:=L;cases fl
 ·refine zW hs ?_;refine on hs.cells ?_;refine ob oS ?_;refine zR ?_;exact⟨rfl,h'⟩
 ·refine zW hs ?_;refine on hs.cells ?_;refine ob oS ?_;refine zR ?_;exact⟨rfl,h'⟩
theorem zmv (h:FreshD M0 M p b D es):CallsM prog 81 [ptr p] M fun v M'=>v = .bool D.down∧M=M':=zGp h.at'
theorem zBY (D:ze) (s:ByteArray):((zax D s).2=9↔D.down=true):=by
 unfold zax zaH za5;cases D.down<;>simp
 repeat' split
 all_goals simp_all
theorem zoq {L:zaM} (h:LogAt M0 M g p b D es L) (k:Int):CallsM prog 205 [ptr g,.int .i64 k] M fun v M'=>v = .int .i64 (zc0 D k)∧M.le M':=by
 refine zpn oS ?_;refine zW h.self ?_;refine(zd6 k).mono ?_;rintro v M1 ⟨rfl,hle1⟩;refine zT (hle1) ?_;have h1:=h.to hle1
 refine zM (zFn h1.disk (zeX k)) ?_;rintro v M2 ⟨a,n,c,rfl,hn,hN⟩;have h2:=h1.to hN.le
 refine zR ?_;refine brn (fun e=>?_) (fun e=>?_)
 ·have hd:=(zBY D (zb k)).1 (Zd0 e);refine zW h2.self ?_;refine(zd6 k).mono ?_;rintro v M3 ⟨rfl,hle3⟩;have h3:=h2.to hle3
  refine zT (hle3) ?_;refine zN (zFo h3.disk (zb k)) ?_;refine⟨?_,Yc hle1 (Yc hN.le hle3)⟩;unfold zc0;rw[if_pos hd]
 ·have hd:¬D.down=true:=fun hd=>Zd1 e ((zBY D (zb k)).2 hd)
  refine zR ?_;refine⟨?_,Yc hle1 hN.le⟩;unfold zc0;rw[if_neg hd,hn,za4]
theorem zwd {L:zaM} (h:LogAt M0 M g p b D es L):CallsM prog 133 [ptr g] M fun v M'=>∃ es',v = .int .i64 (syncL D L).2.2∧LogAt M0 M' g p b (syncL D L).1 es' (syncL D L).2.1:=by
 refine zrx oS ?_;refine zJ (ztR h.self) ?_;refine brn (fun e=>?_) (fun e=>?_)
 ·have hf:L.failed=true:=by
   cases hf:L.failed
   ·rw[hf] at e;exact absurd e oD
   ·rfl
  refine zR ?_;rw[if_pos hf,show syncL D L=(D,L,7) by simp[syncL,hf]];exact⟨es,rfl,h⟩
 have hf:¬L.failed=true:=fun hf=>by simp_all
 refine zW h.self ?_;refine zJ (zmv h.disk) ?_;cases hd:D.down
 case true=>
  refine zM (zhY h 9) ?_;rintro v M1 ⟨rfl,h1⟩;refine zR ?_;rw[show syncL D L=(D,zdr L 9,9) by simp[syncL,hf,hd]];exact⟨es,rfl,h1⟩
 refine zQ h.self ?_;refine(zoq h L.last).mono ?_;rintro v M1 ⟨rfl,hle1⟩;have h1:=h.to hle1
 refine zT (hle1) ?_;refine zM (zd6 L.last) ?_;rintro v M2 ⟨rfl,hle2⟩;have h2:=h1.to hle2
 refine zT ((Yc hle1 hle2)) ?_;refine zJ (zFo h2.disk (zb L.last)) ?_;refine brn (fun e=>?_) (fun e=>?_)
 ·have e1:zc0 D L.last=zgM D (zb L.last):=by have:=Zd0 e;omega
  refine zR ?_;rw[show syncL D L=(D,L,0) by simp[syncL,hf,hd,e1]];exact⟨es,rfl,h2⟩
 have e1:¬zc0 D L.last=zgM D (zb L.last):=by have:=Zd1 e;omega
 refine zQ h2.self ?_;refine(zd6 L.last).mono ?_;rintro v M3 ⟨rfl,hle3⟩;have h3:=h2.to hle3
 refine zT (hle3) ?_;refine zM (zI6 h3.disk.base.1 (zeX L.last)) ?_;rintro v M4 ⟨es4,rfl,h4⟩;have h4':=h3.call h4
 refine zM (zhY h4' _) ?_;rintro v M5 ⟨rfl,h5⟩;refine zR ?_;rw[show syncL D L=((zbM D (zb L.last)).1,zdr L (zbM D (zb L.last)).2,(zbM D (zb L.last)).2) by simp[syncL,hf,hd,e1]];exact⟨es4,rfl,h5⟩
end
section
variable {M M0:Mem} {g p b:Nat} {D:ze} {es:FsT}
theorem zi8 (D:ze) (L:zaM):(syncL D L).2.1.last=L.last∧(syncL D L).2.1.first=L.first∧(syncL D L).2.1.size=L.size:=by
 unfold syncL;repeat' split
 all_goals exact⟨rfl,rfl,rfl⟩
theorem zBZ {L:zaM} (h:LogAt M0 M g p b D es L) (hl:L.last≤99999) (hl1:1≤L.last):CallsM prog 206 [ptr g] M fun v M'=>∃ es',v = .tuple #[.int .i64 (beginL D L).2.2.1,.int .i64 (beginL D L).2.2.2]∧LogAt M0 M' g p b (beginL D L).1 es' (beginL D L).2.1:=by
 refine zqB oS ?_;refine zM (zwd h) ?_;rintro v M1 ⟨es1,rfl,h1⟩;obtain⟨l1,l2,l3⟩:=zi8 D L;obtain⟨S,hS⟩:=oI (syncL D L);have hB:beginL D L=if S.2.2≠0 then (S.1,S.2.1,0,S.2.2) else if zc0 S.1 L.last=0 then (S.1,S.2.1,L.last,0) else if L.last=99999 then (S.1,S.2.1,0,1) else (S.1,{ S.2.1 with last:=L.last+1 },L.last+1,0):=by rw[hS];rfl
 rw[←hS] at h1 l1 l2 l3 ⊢;refine brn (fun e=>?_) (fun e=>?_)
 ·have e1:S.2.2≠0:=by simpa using e
  refine zR ?_;rw[hB,if_pos e1];exact⟨es1,rfl,h1⟩
 have e1:¬S.2.2≠0:=by simpa using e
 refine zW h1.self ?_;rw[l1];refine(zoq h1 L.last).mono ?_;rintro v M2 ⟨rfl,hle2⟩;have h2:=h1.to hle2
 refine brn (fun e=>?_) (fun e=>?_)
 ·have e2:zc0 S.1 L.last=0:=by have:=Zd0 e;omega
  refine zW h2.self ?_;rw[hB,if_neg e1,if_pos e2,l1];exact⟨es1,rfl,h2⟩
 have e2:¬zc0 S.1 L.last=0:=by have:=Zd1 e;omega
 refine zW h2.self ?_;rw[l1];refine brn (fun e=>?_) (fun e=>?_)
 ·have e3:L.last=99999:=Zd0 e;refine zR ?_;rw[hB,if_neg e1,if_neg e2,if_pos e3];exact⟨es1,rfl,h2⟩
 have e3:¬L.last=99999:=Zd1 e;refine zK h2.self ?_;rw[l1];refine obr (inR_i64 oM) ?_;refine on h2.self.cells ?_;refine ob oS ?_;have h3:=h2.set { S.2.1 with last:=L.last+1 }
 obtain⟨M3,hM3⟩:=oI (M2.setCells g 328 (zgN p { S.2.1 with last:=L.last+1 }));rw[←hM3] at h3;erw [←hM3];refine zW h3.self ?_;rw[hB,if_neg e1,if_neg e2,if_neg e3];exact⟨es1,rfl,h3⟩
def zbK (g p b:Nat) (es:FsT):Nat→Prop:=fun y=>y=g∨zao p b es y
theorem LogAt.full {L:zaM} (h:LogAt M0 M g p b D es L) {y:Nat} (hy:zbK g p b es y):M y≠none:=by
 rcases hy with rfl|hy
 ·have:=h.self;unfold Mem.has at this;rw[this];simp
 ·exact h.disk.at'.full hy
theorem LogAt.mono {M1:Mem} {L:zaM} (h:LogAt M1 M g p b D es L) (hle:M0.le M1):LogAt M0 M g p b D es L:=⟨h.disk.mono hle,h.self,by
 cases e:M0 g with
 | none=>rfl
 | some z=>have:=hle _ _ e;rw[h.fresh] at this;cases this⟩
theorem LogAt.base {L:zaM} (h:LogAt M0 M g p b D es L):LogAt (M.minus (zbK g p b es)) M g p b D es L∧M0.le (M.minus (zbK g p b es)):=by
 refine⟨⟨⟨Yac _ _,h.disk.at',h.disk.rel,h.disk.inv,fun y hy=>Yao (.inr hy)⟩,h.self,Yao (.inl rfl)⟩,Ybw h.disk.le fun y hy=>?_⟩;rcases hy with rfl|hy
 ·exact h.fresh
 ·exact h.disk.fresh y hy
theorem zz4 {L:zaM} (h:LogAt M0 M g p b D es L) (hl:L.last≤99999) (hl1:1≤L.last) (hsz:0≤L.size∧L.size≤1048576) {a:Option Addr} {n c:Nat} {q:List UInt8} (hs:SrcOk M 1 a n (q.map zc)) (hn:n≤2097152) (hnc:n≤c) (hlen:zc0 D L.last≤1048576) :
  CallsM prog 132 [ptr g,.slice a n c] M fun v M'=>∃ es',v = .int .i64 (zaf D L q).2.2∧LogAt M0 M' g p b (zaf D L q).1 es' (zaf D L q).2.1:=by
 refine zpi oS ?_;refine zJ (ztR h.self) ?_;refine brn (fun e=>?_) (fun e=>?_)
 ·have hf:L.failed=true:=by
   cases hf:L.failed
   ·simp_all
   ·rfl
  refine zR ?_;rw[if_pos hf,show zaf D L q=(D,L,7) by simp[zaf,hf]];exact⟨es,rfl,h⟩
 have hf:¬L.failed=true:=fun hf=>by simp_all
 refine zM (zHF hs hn hnc) ?_;rintro v M1 (⟨he,rfl,rfl⟩|⟨he,a',n',c',hn',rfl,hN⟩)
 ·refine brn_t (by simp_all) ?_;refine zR ?_;rw[show zaf D L q=(D,L,zgj q) by simp[zaf,hf,he]];exact⟨es,rfl,h⟩
 have h1:=h.to hN.le;have hsB:=hN.src
 have hql:(zam q).length=8+q.length:=zdV q;have hqn:=hs.maplen
 refine zW h1.self ?_;refine zJ (zmv h1.disk) ?_;cases hd:D.down
 case true=>
  refine zM (zhY h1 9) ?_;rintro v M2 ⟨rfl,h2⟩;refine zR ?_;rw[show zaf D L q=(D,zdr L 9,9) by simp[zaf,hf,he,hd]];exact⟨es,rfl,h2⟩
 refine zW h1.self ?_;refine(zoq h1 L.last).mono ?_;rintro v M2 ⟨rfl,hle2⟩;have h2:=h1.to hle2
 have hA:¬(zbO D L (zam q).length).2.2≠0→zaf D L q=((zay (zbO D L (zam q).length).1 (zb (zbO D L (zam q).length).2.1.last) (zam q)).1,
  zdr (zbO D L (zam q).length).2.1 (zay (zbO D L (zam q).length).1 (zb (zbO D L (zam q).length).2.1.last) (zam q)).2,
  (zay (zbO D L (zam q).length).1 (zb (zbO D L (zam q).length).2.1.last) (zam q)).2):=fun e0=>by
  unfold zaf;rw[if_neg hf,if_neg (by simp[he]),if_neg (by simp[hd]),if_neg e0]
 have hsM:SrcOk (M2.minus (zbK g p b es)) 1 a' n' ((zam q).map zc):=(hsB.le hle2).minus fun z hz hb=>h.full hb (hN.block hz).1
 refine brn (fun e=>?_) (fun e=>?_)
 ·have e1:0<zc0 D L.last:=by have:=Zd0 e;omega
  refine zR ?_;refine on (h2.self.c1 rfl) ?_;refine obr (inR_i64 oM) ?_;refine brn (fun e=>?_) (fun e=>?_)
  ·have e2:L.size - zc0 D L.last<(zam q).length:=by have:=Zd0 e;omega
   have hfu:zz3 D L (zam q).length:=⟨e1,e2⟩
   have hRe:zbO D L (zam q).length=((beginL D L).1,(beginL D L).2.1,(beginL D L).2.2.2):=by unfold zbO;rw[if_pos hfu]
   refine zM (zBZ h2.base.1 hl hl1) ?_;rintro v M3 ⟨es3,rfl,h3b⟩;have hs3:=hsM.le h3b.disk.le
   have h3:=h3b.mono h2.base.2;refine brn (fun e=>?_) (fun e=>?_)
   ·have e3:(beginL D L).2.2.2≠0:=by simpa using e
    refine zR ?_;rw[show zaf D L q=zbO D L (zam q).length by unfold zaf;rw[if_neg hf,if_neg (by simp[he]),if_neg (by simp[hd]),if_pos (by simp_all)],hRe];exact⟨es3,rfl,h3⟩
   ·have e3:(beginL D L).2.2.2=0:=by simpa using e
    refine zQ h3.self ?_;refine(zd6 _).mono ?_;rintro v M4 ⟨rfl,hle4⟩;have h4:=h3.to hle4
    refine zT (hle4) ?_;refine zM (zs4 h4.disk.base.1 (zeX _) (hs3.le hle4)) ?_;rintro v M5 ⟨es5,rfl,h5⟩;have h5':=h4.call h5
    refine zM (zhY h5' _) ?_;rintro v M6 ⟨rfl,h6⟩;refine zR ?_;rw[hA (by simp_all),hRe];exact⟨es5,rfl,h6⟩
  ·have e2:¬L.size - zc0 D L.last<(zam q).length:=by have:=Zd1 e;omega
   have hRe:zbO D L (zam q).length=(D,L,0):=by unfold zbO;rw[if_neg (fun h=>e2 h.2)]
   have e3:(0:Int)=0:=rfl
   rename Mem=>M3
   have h3:=h2;have hs3:=hsB.le hle2
   refine zQ h3.self ?_;refine(zd6 _).mono ?_;rintro v M4 ⟨rfl,hle4⟩;have h4:=h3.to hle4
   refine zT (hle4) ?_;refine zM (zs4 h4.disk.base.1 (zeX _) (hs3.le hle4)) ?_;rintro v M5 ⟨es5,rfl,h5⟩;have h5':=h4.call h5
   refine zM (zhY h5' _) ?_;rintro v M6 ⟨rfl,h6⟩;refine zR ?_;rw[hA (by simp_all),hRe];exact⟨es5,rfl,h6⟩
 ·have e1:¬0<zc0 D L.last:=by have:=Zd1 e;omega
  have hRe:zbO D L (zam q).length=(D,L,0):=by unfold zbO;rw[if_neg (fun h=>e1 h.1)]
  have e3:(0:Int)=0:=rfl
  rename Mem=>M3
  have h3:=h2;have hs3:=hsB.le hle2
  refine zQ h3.self ?_;refine(zd6 _).mono ?_;rintro v M4 ⟨rfl,hle4⟩;have h4:=h3.to hle4
  refine zT (hle4) ?_;refine zM (zs4 h4.disk.base.1 (zeX _) (hs3.le hle4)) ?_;rintro v M5 ⟨es5,rfl,h5⟩;have h5':=h4.call h5
  refine zM (zhY h5' _) ?_;rintro v M6 ⟨rfl,h6⟩;refine zR ?_;rw[hA (by simp_all),hRe];exact⟨es5,rfl,h6⟩
end
section
variable {M M0:Mem} {g p b:Nat} {D:ze} {es:FsT}
def zcO (s:ByteArray):Int:=if s.size=6∧((s.toList.getD 0 0).toNat:Int)=119 then ((bl s).drop 1).foldl (fun a c=>10*a+((c.toNat:Int) - 48)) 0 else 0
theorem zf8 {s:ByteArray} (h:zhz s):zcO s=0:=if_neg fun ⟨a,b⟩=>h.elim (fun h=>h a) fun h=>h b
theorem zcs {k:Int} (h:¬(k<1∨99999<k)):zcO (zb k)=k:=by
 rw[zgX h,zcO,if_pos ⟨rfl,by simp⟩];have hnn:0≤k:=by omega
 have a1:kk k 1=k / 10:=by show (kk k 0).tdiv 10=_;rw[Yaw (zf6 hnn 0)];rfl
 have a2:kk k 2=k / 100:=by show (kk k 1).tdiv 10=_;rw[Yaw (zf6 hnn 1),a1];omega
 have a3:kk k 3=k / 1000:=by show (kk k 2).tdiv 10=_;rw[Yaw (zf6 hnn 2),a2];omega
 have a4:kk k 4=k / 10000:=by show (kk k 3).tdiv 10=_;rw[Yaw (zf6 hnn 3),a3];omega
 have a0:kk k 0=k:=rfl;have d0:=zcF hnn 0
 have d1:=zcF hnn 1;have d2:=zcF hnn 2
 have d3:=zcF hnn 3;have d4:=zcF hnn 4
 show 10*(10*(10*(10*(10*0+(((dgB k 4).toNat:Int) - 48))+(((dgB k 3).toNat:Int) - 48))+(((dgB k 2).toNat:Int) - 48))+(((dgB k 1).toNat:Int) - 48))+(((dgB k 0).toNat:Int) - 48)=k;omega
theorem zjH {j k:Int} (hj:¬(j<1∨99999<j)) (hk:¬(k<1∨99999<k)) (h:zb j=zb k):j=k:=by rw[←zcs hj,←zcs hk,h]
def NamesW (D:ze):Prop:=∀ f∈D.l,(∃ k:Int,¬(k<1∨99999<k)∧f.name=zb k)∨zhz f.name
theorem NamesW.num (h:NamesW D) {f:FileR} (hf:f∈D.l):(¬(zcO f.name<1∨99999<zcO f.name)∧f.name=zb (zcO f.name))∨(zhz f.name∧zcO f.name=0):=by
 rcases h f hf with ⟨k,h1,h2⟩|h1
 ·rw[h2,zcs h1];exact .inl ⟨h1,rfl⟩
 ·exact .inr ⟨h1,zf8 h1⟩
def zbp (D:ze) (pick:Int→Bool):List Int:=(D.l.map fun f=>zcO f.name).filter fun k=>decide (0<k)&&pick k
theorem zoP {L:zaM} (h:LogAt M0 M g p b D es L) (hW:NamesW D) {gf:Nat} {cv:Value} {pick:Int→Bool}
  (hp:∀ M',M.le M'→∀ k:Int,CallsM prog gf [.int .i64 k,cv] M' fun v M''=>v = .bool (pick k)∧M'.le M'') :
  CallsM prog 295 [ptr g,.func (.func gf) #[] #[cv]] M fun v M'=>∃ a n c,v = .slice a n c∧n=(zbp D pick).length∧NewSl M 3 1 a n c ((zbp D pick).map zj) M':=by
 refine znh oS ?_;refine zW h.self ?_;refine(zmt h.disk.at' h.disk.rel h.disk.inv).mono ?_;rintro v M1 ⟨na,nc,rfl,hNm⟩;have hln:=h.disk.inv.len
 refine zan (σ:=Nat×Mem×Option Addr×Nat×List Int) [15,5] (fun y=>[(15,.int .i64 y.1),(5,.slice y.2.2.1 y.2.2.2.2.length y.2.2.2.1)]) (fun _=>[]) (fun y=>y.2.1)
  (fun|⟨i,Mc,a,c,out⟩=>i≤D.l.length∧NewSl M1 3 1 a out.length c (out.map zj) Mc∧out=((D.l.take i).map fun f=>zcO f.name).filter (fun k=>decide (0<k)&&pick k)∧out.length≤i) (fun y=>D.l.length - y.1) ⟨0,M1,none,0,[]⟩ ⟨by omega,Yat M1 3 1,by simp,by simp⟩ zS ?_
 rintro ⟨i,Mc,a,c,out⟩ ⟨hi,hN,hout,hol⟩;refine brn (fun e=>?_) (fun e=>?_)
 ·have hlt:i<D.l.length:=by have:=Zd0 e;dsimp only at this;omega
  obtain⟨hk1,b1,o1,e1,hr1⟩:=(hNm.src.le hN.le).at (i:=i) hlt;have hx:D.l[i]? = some D.l[i]:=Yb hlt
  have hnm:(D.l.map (·.name))[i]=D.l[i].name:=by simp
  rw[hnm] at hr1;have hnum:=hW.num (Yak hx)
  have htk:((D.l.take (i+1)).map fun f=>zcO f.name).filter (fun k=>decide (0<k)&&pick k)=((D.l.take i).map fun f=>zcO f.name).filter (fun k=>decide (0<k)&&pick k)++(if (decide (0<zcO D.l[i].name)&&pick (zcO D.l[i].name))=true then [zcO D.l[i].name] else []):=by
   rw[Yz,hx,Y4,Ycf];congr 1;cases hpk:(decide (0<zcO D.l[i].name)&&pick (zcO D.l[i].name))<;>simp[hpk]
  generalize D.l[i]=f at *;rcases hnum with ⟨hnk,hnn⟩|⟨hno,hn0⟩
  rotate_left
  ·rw[hn0,if_neg oS,Ys] at htk;refine ob (by omega) ?_;refine atp e1 ?_;refine on hr1 ?_;refine zN (zxu hno) ?_;refine obr (inR_i64 (by omega)) ?_;exact⟨⟨i+1,Mc,a,c,out⟩,⟨by omega,hN,by simp_all,by omega⟩,by omega,zS⟩
  generalize hkk:zcO f.name=k at *;rw[hnn] at hr1;have hkp:decide (0<k)=true:=decide_eq_true oM
  rw[hkp,Yd1] at htk;refine ob (by omega) ?_;refine atp e1 ?_;refine on hr1 ?_;refine zM (zBV k hnk) ?_;rintro v M2 ⟨rfl,hle2⟩;refine brn_t (decide_eq_true oM) ?_;refine zM (hp M2 (Yc hNm.le (Yc hN.le hle2)) k) ?_;rintro v M3 ⟨rfl,hle3⟩;have hN3:=(hN.up hle2).up hle3
  cases hpk:pick k
  case true=>
   rw[hpk,if_pos rfl] at htk;refine zR ?_;refine zcp M1 _ hN3 (by grind) (by simp[maxLen];omega) oC fun a4 c4 M4 hN4=>?_
   refine obr (inR_i64 (by omega)) ?_;refine⟨⟨i+1,M4,a4,c4,out++[k]⟩,⟨by omega,by simpa using hN4,by simp_all,by simp;omega⟩,by omega,?_⟩;rw[Yi];exact zS
  case false=>
   rw[hpk,if_neg oD,Ys] at htk;refine zR ?_;refine obr (inR_i64 (by omega)) ?_;exact⟨⟨i+1,M3,a,c,out⟩,⟨by omega,hN3,by simp_all,by omega⟩,by omega,zS⟩
 ·have hge:i=D.l.length:=by have:=Zd1 e;dsimp only at this;omega
  subst hge;rw[Yai] at hout;refine zR ?_;exact⟨a,out.length,c,rfl,by rw[hout];rfl,by rw[show zbp D pick=out from hout.symm];exact hN.mono hNm.le⟩
end
section
variable {M M0:Mem} {g p b:Nat} {D:ze} {es:FsT}
def removeAll (D:ze):List Int→ze×Int
 | []=>(D,0)
 | k::r=>if (zae D (zb k)).2≠0 then zae D (zb k) else removeAll (zae D (zb k)).1 r
theorem zi9 {L:zaM} (h:LogAt M0 M g p b D es L) {a:Option Addr} {n c:Nat} {ks:List Int} (hs:SrcOk M0 1 a n (ks.map zj)) (hn:n≤1000000) :
  CallsM prog 294 [ptr g,.slice a n c] M fun v M'=>∃ es',v = .int .i64 (removeAll D ks).2∧LogAt M0 M' g p b (removeAll D ks).1 es' L:=by
 refine zpr oS ?_;have hkl:=hs.maplen
 refine zan (σ:=Nat×Mem×ze×FsT) [10] (fun y=>[(10,.int .i64 y.1)]) (fun _=>[]) (fun y=>y.2.1)
  (fun|⟨i,Mc,Dc,ec⟩=>i≤n∧LogAt M0 Mc g p b Dc ec L∧removeAll D ks=removeAll Dc (ks.drop i)) (fun y=>n - y.1) ⟨0,M,D,es⟩ ⟨by omega,h,rfl⟩ zS ?_
 rintro ⟨i,Mc,Dc,ec⟩ ⟨hi,hL,hrm⟩;refine brn (fun e=>?_) (fun e=>?_)
 ·have hlt:i<n:=by have:=Zd0 e;dsimp only at this;omega
  obtain⟨hk1,b1,o1,e1,hr1⟩:=(hs.le hL.disk.le).at hlt;rw[Y2 hk1] at hrm;generalize ks[i]=k at *;refine ob (by omega) ?_;refine atp e1 ?_;refine on hr1 ?_;refine zW hL.self ?_;refine(zd6 k).mono ?_;rintro v M1 ⟨rfl,hle1⟩;have h1:=hL.to hle1
  refine zT (hle1) ?_;refine zM (zyp h1.disk.base.1 (zeX k)) ?_;rintro v M2 ⟨es2,rfl,h2⟩;have h2':=h1.call h2
  refine brn (fun e=>?_) (fun e=>?_)
  ·have e2:(zae Dc (zb k)).2≠0:=by simpa using e
   refine zR ?_;rw[hrm,removeAll,if_pos e2];exact⟨es2,rfl,h2'⟩
  ·have e2:¬(zae Dc (zb k)).2≠0:=by simpa using e
   rw[removeAll,if_neg e2] at hrm;refine zR ?_;refine obr (inR_i64 (by omega)) ?_;exact⟨⟨i+1,M2,_,es2⟩,⟨by omega,h2',hrm⟩,by omega,zS⟩
 ·have hge:i=n:=by have:=Zd1 e;dsimp only at this;omega
  subst hge;rw[Yaf oM,removeAll] at hrm;refine zR ?_;rw[hrm];exact⟨ec,rfl,hL⟩
theorem zDN {L:zaM} {bx:Nat} (hb:M.has bx 151 [ptr g]) (h:M.has g 328 (zgN p L)):∀ M',M.le M'→∀ k:Int,CallsM prog 296 [.int .i64 k,ptr bx] M' fun v M''=>v = .bool (decide (k<L.first))∧M'.le M'':=fun M' hle k=>by
 refine zps oS ?_;refine zK ((hb.le hle)) ?_;refine zW ((h.le hle)) ?_;exact⟨rfl,Ya _⟩
theorem zq1 {bx:Nat} {n:Int} (hb:M.has bx 3 [.int .i64 n]):∀ M',M.le M'→∀ k:Int,CallsM prog 299 [.int .i64 k,ptr bx] M' fun v M''=>v = .bool (decide (n≤k))∧M'.le M'':=fun M' hle k=>by
 refine zpt oS ?_;refine zW ((hb.le hle)) ?_;exact⟨rfl,Ya _⟩
end
section
variable {M:Mem}
theorem zkY {B:Mem} {a:Option Addr} {n c:Nat} {ks:List Int} (h:NewSl B 3 1 a n c (ks.map zj) M) (hn:n≤1000000) :
  CallsM prog 300 [.slice a n c] M fun v M'=>v = .tuple #[]∧NewSl B 3 1 a n c (ks.reverse.map zj) M'∧Mem.keep (blk a) M M':=by
 refine zi0 oS ?_;have hkl:=h.src.maplen
 refine zR ?_;refine obr (inR_i64 (by omega)) ?_
 refine zan (σ:=Nat×Mem×List Int) [2,3] (fun y=>[(2,.int .i64 y.1),(3,.int .i64 (n - 1 - y.1))]) (fun _=>[]) (fun y=>y.2.1)
  (fun|⟨i,Mc,cur⟩=>2*i≤n+1∧NewSl B 3 1 a n c (cur.map zj) Mc∧Mem.keep (blk a) M Mc∧∀ x y,x+y+1=n→cur[x]? = if x<i∨y<i then ks[y]? else ks[x]?) (fun y=>n - y.1) ⟨0,M,ks⟩ ⟨by omega,h,Yaq _ _,fun x y _=>by simp⟩ ?_ ?_
 ·dsimp only;rw[show (n:Int) - 1 - ((0:Nat):Int)=n - 1 by omega];exact zS
 rintro ⟨i,Mc,cur⟩ ⟨hi,hN,hk,hc⟩;have hcl:=hN.src.maplen
 refine brn (fun e=>?_) (fun e=>?_)
 ·have hlt:2*i+1<n:=by have:=Zd0 e;dsimp only at this;omega
  obtain⟨j,hj⟩:=oI (n - 1 - i);have hjI:(n:Int) - 1 - (i:Int)=(j:Int):=by omega
  obtain⟨hi1,b1,o1,e1,hr1⟩:=hN.src.at (i:=i) oM;obtain⟨hj1,b2,o2,e2,hr2⟩:=hN.src.at (i:=j) oM;rw[e1] at e2;simp only[Y3,Addr.mk.injEq,and_true] at e2;obtain⟨rfl,rfl⟩:=e2;obtain⟨b3,cs3,e3,hb3,hcell3,hlen3,hst3⟩:=hN.store1 (j:=i) oM;rw[e1] at e3;simp only[Y3,Addr.mk.injEq,and_true] at e3;obtain⟨rfl,rfl⟩:=e3;obtain⟨hN4,hk4⟩:=hst3 cur[j];obtain⟨M4,hM4⟩:=oI (Mc.setCells b1 3 (zd cs3 (0+i*1) [zj cur[j]]));rw[←hM4] at hN4 hk4;obtain⟨b5,cs5,e5,hb5,hcell5,hlen5,hst5⟩:=hN4.store1 (j:=j) oM;rw[e1] at e5;simp only[Y3,Addr.mk.injEq,and_true] at e5;obtain⟨rfl, -⟩:=e5;obtain⟨hN6,hk6⟩:=hst5 cur[i];dsimp only;rw[hjI];refine ob (by omega) ?_;refine atp e1 ?_;refine on hr2 ?_;refine ob (by omega) ?_;refine atp e1 ?_;refine on hr1 ?_;refine ob (by omega) ?_;refine atp e1 ?_;refine zR ?_;refine on hcell3 ?_;refine ob (by simp_all) ?_;erw [←hM4];refine zR ?_;refine ob (by omega) ?_;refine atp e1 ?_;refine zR ?_;refine on hcell5 ?_;refine ob (by simp_all) ?_;refine zR ?_;refine obr (inR_i64 (by omega)) ?_;refine obr (inR_i64 (by omega)) ?_;refine⟨⟨i+1,_,(cur.set i cur[j]).set j cur[i]⟩,⟨by omega,hN6,Y9 hk (Y9 hk4 hk6),fun x y hxy=>?_⟩,by omega,?_⟩
  ·have h1:=hc x y hxy;have h2:=hc i j oM
   have h3:=hc j i oM;rw[Yb hi1] at h2;rw[Yb hj1] at h3;rw[if_neg oM] at h2 h3;by_cases ex:x=j
   ·grind
   ·grind
  ·dsimp only;rw[show (n:Int) - 1 - ((i+1:Nat):Int)=(j:Int) - 1 by omega];exact zS
 ·have hge:n≤2*i+1:=by have:=Zd1 e;dsimp only at this;omega
  have hrev:cur=ks.reverse:=by
   apply Ybl;intro x;by_cases hx:x<n
   ·have h1:=hc x (n - 1 - x) oM;rw[h1,List.getElem?_reverse oM,hkl];split
    ·rfl
    ·grind
   ·simp_all
  refine zR ?_;exact⟨rfl,hrev▸hN,hk⟩
end
section
variable {M M0:Mem} {g p b:Nat} {D:ze} {es:FsT}
def zai:Nat→ze→Int→Int→List (List UInt8)→ze×Int×Int×List (List UInt8)×Int
 | 0,D,next,last,all=>(D,next,last,all,0)
 | f+1,D,next,last,all=>
  if 99999<next∨(zax D (zb next)).2=4 then (D,next,last,all,0)
  else if (zax D (zb next)).2≠0 then (D,next,last,[],(zax D (zb next)).2)
  else if zap (zaK (bl (zax D (zb next)).1))<(bl (zax D (zb next)).1).length then
   (if (zcC D (zb next) (zap (zaK (bl (zax D (zb next)).1)))).2≠0 then ((zcC D (zb next) (zap (zaK (bl (zax D (zb next)).1)))).1,next+1,next,[],(zcC D (zb next) (zap (zaK (bl (zax D (zb next)).1)))).2)
   else ((zcC D (zb next) (zap (zaK (bl (zax D (zb next)).1)))).1,next+1,next,all++zaK (bl (zax D (zb next)).1),0))
  else zai f D (next+1) next (all++zaK (bl (zax D (zb next)).1))
def zbR (D:ze) (L:zaM):ze×zaM×List (List UInt8)×Int:=
 let r:=removeAll D (zbp D fun k=>decide (k<L.first))
 if r.2≠0 then (r.1,L,[],r.2) else
 let o:=zai (100000 - L.first).toNat r.1 L.first L.last []
 if o.2.2.2.2≠0 then (o.1,{ L with last:=o.2.2.1 },[],o.2.2.2.2) else
 let q:=removeAll o.1 (zbp o.1 fun k=>decide (o.2.1≤k)).reverse
 (q.1,{ L with last:=o.2.2.1 },o.2.2.2.1,q.2)
theorem NamesW.l {D':ze} (h:NamesW D) (e:∀ f∈D'.l,f∈D.l∨(∃ k:Int,¬(k<1∨99999<k)∧f.name=zb k)∨zhz f.name):NamesW D':=fun f hf=>by
 rcases e f hf with hf|hf
 ·exact h f hf
 ·exact hf
theorem zkZ {k:Int} (h:za5 D (zb k)=0):¬(k<1∨99999<k):=fun hk=>by
 have:=(zxw h).2;have e:zb k=ByteArray.empty:=by unfold zb;rw[if_pos hk]
 rw[e] at this;exact absurd this oD
theorem NamesW.remove (h:NamesW D) (s:ByteArray):NamesW (zae D s).1:=by
 unfold zae;split
 ·exact h
 ·exact h.l fun f hf => .inl (withoutR_mem.1 hf).1
theorem NamesW.cut (h:NamesW D) (k:Int) (n:Int):NamesW (zcC D (zb k) n).1:=by
 unfold zcC;split
 ·exact h
 ·rename_i h0;split
  ·exact h
  ·have hk:=zkZ (zcA (by simpa using h0)).1;refine h.l fun f hf=>?_
   rcases withR_mem.1 hf with rfl|⟨hf,_⟩
   ·grind
   ·simp_all
theorem NamesW.removeAll:∀ {ks:List Int} {D:ze},NamesW D→NamesW (removeAll D ks).1
 | [],_,h=>h
 | k::r,D,h=>by
  rw[Go.Proofs.YtlgbofpennelhaaGreat.removeAll];split
  ·exact h.remove _
  ·exact NamesW.removeAll (h.remove _)
theorem LogAt.keepS {L:zaM} (h:LogAt M0 M g p b D es L) {S:Nat→Prop} {M':Mem} (hk:Mem.keep S M M') (hS:∀ y,S y→M0 y=none∧¬zbK g p b es y):LogAt M0 M' g p b D es L:=
 ⟨⟨hk.le h.disk.le fun y hy=>(hS y hy).1,h.disk.at'.mono fun y o hy ho=>hk y o (fun e=>(hS y e).2 (.inr hy)) ho,h.disk.rel,h.disk.inv,h.disk.fresh⟩,hk _ _ (fun e=>(hS g e).2 (.inl rfl)) h.self,h.fresh⟩
def AllAt (M0 M:Mem) (a:Option Addr) (n c:Nat) (all:List (List UInt8)):Prop:=NewEls M0 37 1 a n c (BytesW M) all M
theorem AllAt.up {a:Option Addr} {n c:Nat} {all:List (List UInt8)} (h:AllAt M0 M a n c all) {M':Mem} (hle:M.le M'):AllAt M0 M' a n c all:=(NewEls.up h hle).imp fun _ _ _ hx=>hx.le hle
theorem AllAt.app {Z:Mem} {S:Nat→Prop} {a a2:Option Addr} {n c n2:Nat} {all more:List (List UInt8)} (h:AllAt M0 Z a n c all) (hZ:Z.le M) (hS1:∀ y,S y→Z y=none) (hS2:∀ y,S y→M y≠none) (h2:Elems Z 1 a2 n2 (BytesW Z) more) {k:Option Addr→Nat→Mem→Prop} (hb:n+n2≤4000000000000)
  (hk:∀ a' c' M',AllAt M0 (M'.minus S) a' (n+n2) c' (all++more)→Mem.keep (blk a) M M'→(∀ y,blk a y→M0 y=none∧¬S y)→(∀ y o,Z y=some o→¬blk a y→(M'.minus S) y=some o)→k a' c' M'):zar M 1 a2 n2 fun vs=>zac 37 1 24 a n c n2 vs M k:=by
 unfold Elems at h2;obtain⟨css2,s2,l2,m2,u2,r2⟩:=h2;refine zce (s2.le hZ) ?_;unfold AllAt NewEls at h;obtain⟨css,s1,l1,m1,u1,r1⟩:=h;have one:∀ {cs:List Value} {x:List UInt8},BytesW Z cs x→∀ u∈cs,u.oneCell'=true:=fun ⟨_,_,_,e,_⟩ u hu=>by rw[e] at hu;simp at hu;subst hu;rfl
 have hblk:∀ y,blk a y→M0 y=none∧¬S y:=fun y ⟨q,hq,e⟩=>by
  obtain⟨h3,cs,h4⟩:=s1.block hq;rw[e] at h3 h4;refine⟨h3,fun hs=>?_⟩;have:=hS1 y hs
  unfold Mem.has at h4;rw[h4] at this;cases this
 have hm0:M0.le (M.minus (blk a)):=Ybw (Yc s1.le hZ) fun y hy=>(hblk y hy).1
 refine ziz (M.minus (blk a)) _ (s1.rebase hZ) oM (by simp[maxLen];omega) (fun u hu=>?_) fun a' c' M' hN hkp=>?_
 ·obtain⟨cs,hcs,hu⟩:=List.mem_flatten.1 hu;obtain⟨i,hi,rfl⟩:=Ybi hcs;exact one (r2 i _ _ (Yb hi) (Yb oM)) u hu
 ·have hold:∀ y o,Z y=some o→¬blk a y→(M'.minus S) y=some o:=fun y o hy hny=>by
   unfold Mem.minus;rw[if_neg fun hs=>by simp_all];exact hkp y o hny (hZ y o hy)
  have mv:∀ {cs:List Value} {x:List UInt8},BytesW Z cs x→BytesW (M'.minus S) cs x:=fun ⟨pa,pn,pc,e,hw⟩=>⟨pa,pn,pc,e,hw.mono fun q o hq ho=>hold _ _ ho fun ⟨q2,hq2,e2⟩=>by
   obtain⟨cs1,hh1⟩:=(s1.block hq2).2;obtain⟨cs2,hh2⟩:=hw.block hq;rw[e2] at hh1
   exact absurd (hh1.inj hh2).1 oD⟩
  have hN2:NewSl M0 37 1 a' (n+n2) c' (css.flatten++css2.flatten) (M'.minus S):=by
   obtain⟨w0,w1,w2,w3⟩:=newSl_iff.1 hN;refine newSl_iff.2 ⟨fun y o hy=>?_,w1,w2,w3.imp id fun ⟨b1,cs,ha,hb1,hh,hr⟩=>⟨b1,cs,ha,?_,?_,hr⟩⟩
   ·exact hold y o (s1.le y o hy) fun hbl=>by simp_all
   ·cases e:M0 b1 with
    | none=>rfl
    | some o=>rw[hm0 b1 o e] at hb1;cases hb1
   ·unfold Mem.has at hh ⊢;unfold Mem.minus;rw[if_neg fun hs=>?_]
    ·exact hh
    ·rcases Classical.em (blk a b1) with hbl|hbl
     ·simp_all
     ·unfold Mem.minus at hb1;rw[if_neg hbl] at hb1;exact hS2 b1 hs hb1
  refine hk a' c' M' ?_ hkp hblk hold;unfold AllAt NewEls;refine⟨css++css2,by rw[Ydm];exact hN2,by simp_all,by simp_all,fun cs hcs=>?_,fun i cs x hi hx=>?_⟩
  ·grind
  ·grind
end
section
variable {M M0:Mem} {g p b:Nat} {D:ze} {es:FsT}
theorem LogAt.z {L:zaM} (_h:LogAt M0 M g p b D es L) {M':Mem} {D':ze} {es':FsT} {L':zaM} (h':LogAt (M.minus (zbK g p b es)) M' g p b D' es' L'):(M.minus (zbK g p b es)).le (M'.minus (zbK g p b es')):=h'.base.2
theorem LogAt.zle {L:zaM} (h:LogAt M0 M g p b D es L) {M':Mem} (hle:M.le M'):(M.minus (zbK g p b es)).le (M'.minus (zbK g p b es)):=(h.base.1.to hle).base.2
structure OpS where
 f:Nat
 next:Int
 M:Mem
 D:ze
 es:FsT
 last:Int
 a:Option Addr
 c:Nat
 all:List (List UInt8)
structure OpI (B0:Mem) (g p b bq:Nat) (L:zaM) (R:ze×Int×Int×List (List UInt8)×Int) (y:OpS):Prop where
 fu:y.f=(100000 - y.next).toNat∧1≤y.next∧y.next≤100000
 log:LogAt B0 y.M g p b y.D y.es { L with last:=y.last }
 bx:(y.M.minus (zbK g p b y.es)).has bq 151 [ptr g]
 all':AllAt B0 (y.M.minus (zbK g p b y.es)) y.a y.all.length y.c y.all
 nm:NamesW y.D
 eq:R=zai y.f y.D y.next y.last y.all
 len:(y.all.length:Int)+(100000 - y.next)*1048576≤104857600000
set_option maxRecDepth 10000 in
theorem zDO {L:zaM} (h:LogAt M0 M g p b D es L) (hW:NamesW D) (hf:1≤L.first∧L.first≤99999) (_hfl:L.failed=false) :
  CallsM prog 233 [ptr g] M fun v M'=>∃ es' a n c,v = .tuple #[.slice a n c,.int .i64 (zbR D L).2.2.2]∧LogAt M0 M' g p b (zbR D L).1 es' (zbR D L).2.1 ∧
   ((zbR D L).2.2.2=0→AllAt M0 (M'.minus (zbK g p b es')) a n c (zbR D L).2.2.1):=by
 refine zrG oS ?_;obtain⟨h0,hM0⟩:=h.base;obtain⟨B0,hB0⟩:=oI (M.minus (zbK g p b es));rw[←hB0] at h0 hM0;refine zR ?_;refine new (fun bq hbl=>?_);replace hbl:M bq=none:=hbl;have hle1:M.le (M.setCells bq 151 [ptr g]):=Yw hbl
 have hb1:(M.setCells bq 151 [ptr g]).has bq 151 [ptr g]:=Ye;obtain⟨M1,hM1⟩:=oI (M.setCells bq 151 [ptr g]);rw[←hM1] at hle1 hb1;erw [←hM1];have h1:=h0.to hle1
 refine(zoP h1 hW (zDN hb1 h1.self)).mono ?_;rintro v M2 ⟨a2,n2,c2,rfl,hn2,hN2⟩;have hle2:=hN2.le
 refine ob (hb1.le hle2) ?_;refine grow_same (Yc hle1 hle2) ?_;refine zR ?_;have h2:=h1.to hle2
 have hs2:SrcOk (M2.minus (zbK g p b es)) 1 a2 n2 ((zbp D fun k=>decide (k<L.first)).map zj):=hN2.src.minus fun q hq hb=>h1.full hb (hN2.block hq).1
 have hbl2:(M2.minus (zbK g p b es)).has bq 151 [ptr g]:=by
  have:=hb1.le hle2;unfold Mem.has at this ⊢;unfold Mem.minus;rw[if_neg fun hb=>h0.full hb hbl];exact this
 have hsl:(zbp D fun k=>decide (k<L.first)).length≤64:=by
  have:=h.disk.inv.len;refine Yn (Yar _ _) ?_;simpa using this
 refine(zi9 h2.base.1 hs2 oM).mono ?_;rintro v M3 ⟨es3,rfl,h3⟩;have hz23:=h2.z h3
 obtain⟨r,hr⟩:=oI (removeAll D (zbp D fun k=>decide (k<L.first)))
 have hO:zbR D L=if r.2≠0 then (r.1,L,[],r.2) else
  if (zai (100000 - L.first).toNat r.1 L.first L.last []).2.2.2.2≠0 then ((zai (100000 - L.first).toNat r.1 L.first L.last []).1,{ L with last:=(zai (100000 - L.first).toNat r.1 L.first L.last []).2.2.1 },[],(zai (100000 - L.first).toNat r.1 L.first L.last []).2.2.2.2)
  else ((removeAll (zai (100000 - L.first).toNat r.1 L.first L.last []).1 (zbp (zai (100000 - L.first).toNat r.1 L.first L.last []).1 fun k=>decide ((zai (100000 - L.first).toNat r.1 L.first L.last []).2.1≤k)).reverse).1,
   { L with last:=(zai (100000 - L.first).toNat r.1 L.first L.last []).2.2.1 },(zai (100000 - L.first).toNat r.1 L.first L.last []).2.2.2.1,
   (removeAll (zai (100000 - L.first).toNat r.1 L.first L.last []).1 (zbp (zai (100000 - L.first).toNat r.1 L.first L.last []).1 fun k=>decide ((zai (100000 - L.first).toNat r.1 L.first L.last []).2.1≤k)).reverse).2):=by rw[hr];rfl
 rw[←hr] at h3 ⊢;have hWr:NamesW r.1:=hr▸hW.removeAll
 replace h3:LogAt B0 M3 g p b r.1 es3 L:=h3.mono h2.base.2;have hbl3:=hbl2.le hz23
 clear hbl2 hz23 hs2 h2 hN2 hle2 hsl;refine brn (fun e=>?_) (fun e=>?_)
 ·have e1:r.2≠0:=by simpa using e
  refine zR ?_;rw[hO,if_pos e1];exact⟨es3,none,0,0,rfl,h3.mono hM0,fun h=>absurd h e1⟩
 have e1:¬r.2≠0:=by simpa using e
 rw[if_neg e1] at hO;refine zK ((hbl3.le (Yac _ _))) ?_;refine zK h3.self ?_;obtain⟨R,hR⟩:=oI (zai (100000 - L.first).toNat r.1 L.first L.last []);rw[←hR] at hO
 refine zan (σ:=OpS) [5] (fun y=>[(5,.slice y.a y.all.length y.c)]) (fun y=>[.gone bq,.live 3 [.v (.int .i64 y.next)]]) (fun y=>y.M) (OpI B0 g p b bq L R) (fun y=>y.f) ⟨(100000 - L.first).toNat,L.first,M3,r.1,es3,L.last,none,0,[]⟩
  ⟨⟨rfl,by dsimp only;omega,by dsimp only;omega⟩,h3,hbl3,(NewEls.nil _ _ _ _).mono h3.base.2,hWr,hR,by dsimp only [List.length_nil];omega⟩ zS ?_
 rintro ⟨f,nx,Mc,Dc,ec,la,aa,ac,all⟩ ⟨⟨hfu,hnx1,hnx2⟩,hL,hbx,hA,hWc,hE,hlen⟩;dsimp only at hfu hnx1 hnx2 hL hbx hA hWc hE hlen;have hbM:=hbx.le (Yac Mc (zbK g p b ec))
 refine zK hbM ?_;refine zW hL.self ?_;refine(zd6 nx).mono ?_;rintro v M4 ⟨rfl,hle4⟩;have hL4:=hL.to hle4
 refine zT (hle4) ?_;refine zM (zFn hL4.disk (zeX nx)) ?_;rintro v M5 ⟨pa,pn,pc,rfl,hpn,hpN⟩;have hL5:=hL4.to hpN.le
 have hz5:=hL.zle (Yc hle4 hpN.le);have hbx5:=hbx.le hz5
 have hA5:=hA.up hz5;have hp5:SrcOk (M5.minus (zbK g p b ec)) 1 pa pn ((bl (zax Dc (zb nx)).1).map zc):=hpN.src.minus fun q hq hb=>hL4.full hb (hpN.block hq).1
 have hb5:=hbx5.le (Yac M5 (zbK g p b ec));have hus:=hL.disk.inv.used
 refine brn (fun e=>?_) (fun e=>?_)
 ·have e2:99999<nx:=Zd0 e
  have hRe:R=(Dc,nx,la,all,0):=by
   rw[hE];cases f with
   | zero=>rfl
   | succ f=>rw[zai,if_pos (.inl e2)]
  rw[if_neg (by rw[hRe];simp)] at hO;have hbMe:=hbx5.le (Yac M5 (zbK g p b ec))
  refine zW hbMe ?_;refine new (fun b2 hb2=>?_);replace hb2:M5 b2=none:=hb2;have hle6:M5.le (M5.setCells b2 3 [.int .i64 nx]):=Yw hb2
  have hb6:(M5.setCells b2 3 [.int .i64 nx]).has b2 3 [.int .i64 nx]:=Ye;obtain⟨M6,hM6⟩:=oI (M5.setCells b2 3 [.int .i64 nx]);rw[←hM6] at hle6 hb6;erw [←hM6];have hL6:=hL5.to hle6
  refine(zoP hL6 hWc (zq1 hb6)).mono ?_;rintro v M7 ⟨a7,n7,c7,rfl,hn7,hN7⟩
  have hsl7:n7≤64:=by
   have:=hL5.disk.inv.len;rw[hn7];refine Yn (Yar _ _) ?_;simpa using this
  refine zM (zkY hN7 oM) ?_;rintro v M8 ⟨rfl,hN8, -⟩;have hL8:=hL6.to hN8.le
  have hs8:SrcOk (M8.minus (zbK g p b ec)) 1 a7 n7 ((zbp Dc fun k=>decide (nx≤k)).reverse.map zj):=hN8.src.minus fun q hq hb=>hL6.full hb (hN8.block hq).1
  have hz8:=hL5.zle (Yc hle6 hN8.le);have hb8:=(hbx5.le hz8).le (Yac M8 (zbK g p b ec))
  refine zW hb8 ?_;refine(zi9 hL8.base.1 hs8 oM).mono ?_;rintro v M9 ⟨es9,rfl,h9⟩;refine zR ?_;rw[hO,hRe];exact⟨es9,aa,all.length,ac,rfl,h9.mono (Yc hM0 hL8.base.2),fun _=>((hA5.up hz8).up (hL8.z h9)).mono hM0⟩
 have e2:¬99999<nx:=Zd1 e;refine zR ?_;refine brn (fun e=>?_) (fun e=>?_)
 ·have e3:(zax Dc (zb nx)).2=4:=Zd0 e
  have hRe:R=(Dc,nx,la,all,0):=by
   rw[hE];cases f with
   | zero=>rfl
   | succ f=>rw[zai,if_pos (.inr e3)]
  rw[if_neg (by rw[hRe];simp)] at hO;have hbMe:=hbx5.le (Yac M5 (zbK g p b ec))
  refine zW hbMe ?_;refine new (fun b2 hb2=>?_);replace hb2:M5 b2=none:=hb2;have hle6:M5.le (M5.setCells b2 3 [.int .i64 nx]):=Yw hb2
  have hb6:(M5.setCells b2 3 [.int .i64 nx]).has b2 3 [.int .i64 nx]:=Ye;obtain⟨M6,hM6⟩:=oI (M5.setCells b2 3 [.int .i64 nx]);rw[←hM6] at hle6 hb6;erw [←hM6];have hL6:=hL5.to hle6
  refine(zoP hL6 hWc (zq1 hb6)).mono ?_;rintro v M7 ⟨a7,n7,c7,rfl,hn7,hN7⟩
  have hsl7:n7≤64:=by
   have:=hL5.disk.inv.len;rw[hn7];refine Yn (Yar _ _) ?_;simpa using this
  refine zM (zkY hN7 oM) ?_;rintro v M8 ⟨rfl,hN8, -⟩;have hL8:=hL6.to hN8.le
  have hs8:SrcOk (M8.minus (zbK g p b ec)) 1 a7 n7 ((zbp Dc fun k=>decide (nx≤k)).reverse.map zj):=hN8.src.minus fun q hq hb=>hL6.full hb (hN8.block hq).1
  have hz8:=hL5.zle (Yc hle6 hN8.le);have hb8:=(hbx5.le hz8).le (Yac M8 (zbK g p b ec))
  refine zW hb8 ?_;refine(zi9 hL8.base.1 hs8 oM).mono ?_;rintro v M9 ⟨es9,rfl,h9⟩;refine zR ?_;rw[hO,hRe];exact⟨es9,aa,all.length,ac,rfl,h9.mono (Yc hM0 hL8.base.2),fun _=>((hA5.up hz8).up (hL8.z h9)).mono hM0⟩
 have e3:¬(zax Dc (zb nx)).2=4:=Zd1 e;obtain⟨f',rfl⟩:∃ f',f=f'+1:=⟨f - 1,by omega⟩
 rw[zai,if_neg oM] at hE;refine zR ?_;refine brn (fun e=>?_) (fun e=>?_)
 ·have e4:(zax Dc (zb nx)).2≠0:=by simpa using e
  rw[if_pos e4] at hE;rw[if_pos (by rw[hE];exact e4)] at hO;refine zR ?_;rw[hO,hE];exact⟨ec,none,0,0,rfl,hL5.mono hM0,fun h=>absurd h e4⟩
 have e4:¬(zax Dc (zb nx)).2≠0:=by simpa using e
 rw[if_neg e4] at hE;refine zW hb5 ?_;refine on hL5.self.cells ?_;refine ob oS ?_;have hL6:=hL5.base.1.set { L with last:=nx }
 obtain⟨M6,hM6⟩:=oI (M5.setCells g 328 (zgN p { L with last:=nx }));rw[←hM6] at hL6;erw [←hM6];have hz6:=hL5.z hL6
 have hb6:=hbx5.le hz6;have hA6:=hA5.up hz6
 have hp6:=hp5.le hL6.disk.le;refine zV ?_
 have hrow:(bl (zax Dc (zb nx)).1).length≤1048576:=by
  have h1:zaH Dc (zb nx)=0:=by
   apply Ybp;intro hh;have:(zax Dc (zb nx)).2=zaH Dc (zb nx):=by unfold zax;rw[if_pos hh]
   exact e4 (by rw[this];exact hh)
  have h2:(zax Dc (zb nx)).1=(zt Dc (zb nx)).all:=by unfold zax;rw[if_neg (by simp[h1])]
  have h3:=(zcx hL.disk.inv.sort (zcA h1).2).2;rw[h2,FileR.all_size];omega
 have hp6z:SrcOk (M6.minus (zbK g p b ec)) 1 pa pn ((bl (zax Dc (zb nx)).1).map zc):=hp5.le hz6;refine((zGl hp6z oM (by have:=(newSl_iff.1 hpN).2.2.1;omega)).frame (Yac _ _)).mono ?_;rintro v M7 ⟨A7,⟨sa,sn,sc,rfl,hsN⟩,hA7,hrest⟩;obtain⟨row,hrw⟩:=oI (bl (zax Dc (zb nx)).1);rw[←hrw] at hE hrow hsN hpn ⊢;obtain⟨hi1,hi2,hi3⟩:=zop row.length row (Yd _);have hsl:=hsN.len
 have hsn:9*(zaK row).length≤zap (zaK row):=by
  clear hsN hE hi1 hsl;generalize zaK row=ps at *;clear hi3
  induction ps with
  | nil=>simp
  | cons q qs ih=>
   have h1:=(hi2 q oS).1;have h2:=ih fun z hz=>hi2 z (by simp[hz])
   simp only[zap,Yv,Ya5,Ym] at h2 ⊢;omega
 have hle7:M6.le M7:=fun y o hy=>by
  by_cases hz:(M6.minus (zbK g p b ec)) y=none
  ·exact(hrest y o hz hy).1
  ·obtain⟨o2,ho2⟩:=Yba.1 hz;have:=Yac _ _ y o2 ho2
   rw[hy] at this;cases this;exact hA7 y o (hsN.le y o ho2)
 have hL7:=hL6.to hle7
 have hS1:∀ y,zbK g p b ec y→A7 y=none:=fun y hy=>by
  obtain⟨o,ho⟩:=Yba.1 (hL6.full hy);exact(hrest y o (Yao hy) ho).2
 refine(hA6.up hsN.le).app hA7 hS1 (fun y hy=>hL7.full hy) hsN.elems oM fun a8 c8 M8 hA8 hk8 hab hold8=>?_
 have hL8:=(hL7.mono hL5.base.2).keepS hk8 hab
 have hb8:(M8.minus (zbK g p b ec)).has bq 151 [ptr g]:=hold8 _ _ (hb6.le hsN.le) fun ⟨q,hq,e⟩=>by
  obtain⟨-, cs,hh⟩:=NewEls.block hA6 hq;rw[e] at hh;exact absurd (hh.inj hb6).1 oD
 have hbM8:=hb8.le (Yac M8 (zbK g p b ec));have el:all.length+sn=(all++zaK row).length:=by rw[Yi,hsl]
 dsimp only;rw[el] at hA8 ⊢;refine zR ?_;have hpl:((pn:Nat):Int)=row.length:=by rw[hpn]
 refine brn (fun e=>?_) (fun e=>?_)
 ·have e5:zap (zaK row)<row.length:=by have:=Zd0 e;omega
  rw[if_pos e5] at hE;refine zK hbM8 ?_;refine on (hL8.self.c1 rfl) ?_;refine on (hbM8.c1 rfl) ?_;refine zW hL8.self ?_;refine(zd6 nx).mono ?_;rintro v M9 ⟨rfl,hle9⟩;have hL9:=hL8.to hle9
  refine zT (hle9) ?_;refine zM (zJ8 hL9.disk.base.1 (zeX nx) (zap (zaK row))) ?_;rintro v M10 ⟨es10,rfl,h10⟩;have hL10:=hL9.base.1.call h10
  have hz10:=Yc (hL8.zle hle9) (hL9.z hL10);replace hL10:=hL10.mono hL9.base.2;have hb10:=hb8.le hz10
  have hA10:=hA8.up hz10;have hW10:=hWc.cut nx (zap (zaK row))
  obtain⟨C,hC⟩:=oI (zcC Dc (zb nx) (zap (zaK row)));rw[←hC] at hE hL10 hW10 ⊢;refine zR ?_;refine brn (fun e=>?_) (fun e=>?_)
  ·have e6:C.2≠0:=by simpa using e
   rw[if_pos e6] at hE;rw[if_pos (by rw[hE];exact e6)] at hO;refine zR ?_;rw[hO,hE];exact⟨es10,none,0,0,rfl,hL10.mono hM0,fun h=>absurd h e6⟩
  have e6:¬C.2≠0:=by simpa using e
  rw[if_neg e6] at hE;rw[if_neg (by rw[hE];simp)] at hO;have hbMe:=hb10.le (Yac M10 (zbK g p b es10))
  refine zW hbMe ?_;refine new (fun b2 hb2=>?_);replace hb2:M10 b2=none:=hb2;have hle6:M10.le (M10.setCells b2 3 [.int .i64 (nx+1)]):=Yw hb2
  have hb6:(M10.setCells b2 3 [.int .i64 (nx+1)]).has b2 3 [.int .i64 (nx+1)]:=Ye;obtain⟨M6,hM6⟩:=oI (M10.setCells b2 3 [.int .i64 (nx+1)]);rw[←hM6] at hle6 hb6;erw [←hM6];have hL6:=hL10.to hle6
  refine(zoP hL6 hW10 (zq1 hb6)).mono ?_;rintro v M7 ⟨a7,n7,c7,rfl,hn7,hN7⟩
  have hsl7:n7≤64:=by
   have:=hL10.disk.inv.len;rw[hn7];refine Yn (Yar _ _) ?_;simpa using this
  refine zM (zkY hN7 oM) ?_;rintro v M8 ⟨rfl,hN8, -⟩;have hL8:=hL6.to hN8.le
  have hs8:SrcOk (M8.minus (zbK g p b es10)) 1 a7 n7 ((zbp C.1 fun k=>decide ((nx+1)≤k)).reverse.map zj):=hN8.src.minus fun q hq hb=>hL6.full hb (hN8.block hq).1
  have hz8:=hL10.zle (Yc hle6 hN8.le);have hb8:=(hb10.le hz8).le (Yac M8 (zbK g p b es10))
  refine zW hb8 ?_;refine(zi9 hL8.base.1 hs8 oM).mono ?_;rintro v M9 ⟨es9,rfl,h9⟩;refine zR ?_;rw[hO,hE];exact⟨es9,a8,(all++zaK row).length,c8,rfl,h9.mono (Yc hM0 hL8.base.2),fun _=>((hA10.up hz8).up (hL8.z h9)).mono hM0⟩
 have e5:¬zap (zaK row)<row.length:=by have:=Zd1 e;omega
 rw[if_neg e5] at hE;refine zR ?_;refine⟨⟨f',nx+1,M8,Dc,ec,nx,a8,c8,all++zaK row⟩,⟨⟨by dsimp only;omega,by dsimp only;omega,by dsimp only;omega⟩,hL8,hb8,hA8,hWc,hE,?_⟩,by dsimp only;omega,zS⟩;dsimp only;rw[Yi];omega
end
section
variable {M M0:Mem} {g p b:Nat} {D:ze} {es:FsT}
def L0 (first size:Int):zaM:=⟨first,first,size,false⟩
def zyr (M0 M':Mem) (p b:Nat) (D:ze) (first size:Int) (v:Value):Prop:=
 ((first<1∨99999<first∨size<16∨1048576<size)∧v = .tuple #[.pointer none,.slice none 0 0,.int .i64 1]∧∃ es',FreshD M0 M' p b D es') ∨
 (¬(first<1∨99999<first∨size<16∨1048576<size)∧D.down=true∧v = .tuple #[.pointer none,.slice none 0 0,.int .i64 9]∧∃ es',FreshD M0 M' p b D es') ∨
 (¬(first<1∨99999<first∨size<16∨1048576<size)∧D.down=false∧(zbR D (L0 first size)).2.2.2≠0∧v = .tuple #[.pointer none,.slice none 0 0,.int .i64 (zbR D (L0 first size)).2.2.2]∧∃ es',FreshD M0 M' p b (zbR D (L0 first size)).1 es') ∨
 (¬(first<1∨99999<first∨size<16∨1048576<size)∧D.down=false∧(zbR D (L0 first size)).2.2.2=0∧∃ g es' a n c,v = .tuple #[ptr g,.slice a n c,.int .i64 0] ∧
  LogAt M0 M' g p b (zbR D (L0 first size)).1 es' (zbR D (L0 first size)).2.1∧AllAt M0 (M'.minus (zbK g p b es')) a n c (zbR D (L0 first size)).2.2.1)
theorem zGr (h:FreshD M0 M p b D es) (hW:NamesW D) (first size:Int):CallsM prog 154 [ptr p,.int .i64 first,.int .i64 size] M fun v M'=>zyr M0 M' p b D first size v:=by
 refine zxc oS ?_;refine zR ?_;refine brn (fun e=>?_) (fun e=>?_)
 ·refine zR ?_;exact .inl ⟨by simp_all,rfl,es,h⟩
 have e1:=Zd1 e;refine zR ?_;refine brn (fun e=>?_) (fun e=>?_)
 ·refine zR ?_;exact .inl ⟨by simp_all,rfl,es,h⟩
 have e2:=Zd1 e;refine zR ?_;refine brn (fun e=>?_) (fun e=>?_)
 ·refine zR ?_;exact .inl ⟨by simp_all,rfl,es,h⟩
 have e3:=Zd1 e;refine zR ?_;refine brn (fun e=>?_) (fun e=>?_)
 ·refine zR ?_;exact .inl ⟨by simp_all,rfl,es,h⟩
 have e4:=Zd1 e;have hn:¬(first<1∨99999<first∨size<16∨1048576<size):=by omega
 refine zJ (zmv h) ?_;cases hd:D.down
 case true=>
  refine zR ?_;exact .inr (.inl ⟨hn,hd,rfl,es,h⟩)
 refine zR ?_;refine new (fun g hg=>?_);replace hg:M g=none:=hg;have hle1:M.le (M.setCells g 328 (zgN p (L0 first size))):=Yw hg
 have hs1:(M.setCells g 328 (zgN p (L0 first size))).has g 328 (zgN p (L0 first size)):=Ye;obtain⟨M1,hM1⟩:=oI (M.setCells g 328 (zgN p (L0 first size)));rw[←hM1] at hle1 hs1;erw [←hM1]
 have h1:LogAt M0 M1 g p b D es (L0 first size):=⟨h.to hle1,hs1,by
  cases e:M0 g with
  | none=>rfl
  | some o=>rw[h.le _ _ e] at hg;cases hg⟩
 refine(zDO h1 hW (by show 1≤first∧first≤99999;omega) rfl).mono ?_;rintro v M2 ⟨es2,a,n,c,rfl,h2,hA⟩;refine brn (fun e=>?_) (fun e=>?_)
 ·have e5:(zbR D (L0 first size)).2.2.2≠0:=by simpa using e
  refine zR ?_;exact .inr (.inr (.inl ⟨hn,hd,e5,rfl,es2,h2.disk⟩))
 ·have e5:(zbR D (L0 first size)).2.2.2=0:=by simpa using e
  refine zR ?_;exact .inr (.inr (.inr ⟨hn,hd,e5,g,es2,a,n,c,rfl,h2,hA e5⟩))
theorem wlL {D:ze} (h:InvD D) (k:Int):zc0 D k≤1048576:=by
 have hu:=h.used
 have key:∀ s,(zax D s).1.size≤za0 D.l:=fun s=>by
  unfold zax;split
  ·simp
  ·rename_i g;have h1:=(zcA (by simpa using g)).2
   have:=(zcx h.sort h1).2;rw[all_size];omega
 unfold zc0;split
 ·unfold zgM;split
  ·rename_i f hf;have:=(zcx h.sort hf).2
   omega
  ·omega
 ·grind
end
section
variable {M M0:Mem} {p b:Nat} {D:ze} {es:FsT}
def zaD (k:Int):ByteArray:=if k<1∨99999<k then ByteArray.empty else ⟨#[115]⟩++zf7 k
theorem zfQ {k:Int} (h:¬(k<1∨99999<k)):zaD k=⟨#[115,dgB k 4,dgB k 3,dgB k 2,dgB k 1,dgB k 0]⟩:=by
 unfold zaD;rw[if_neg h];rfl
theorem zwe {k:Int} (h:¬(k<1∨99999<k)):zhz (zaD k):=by
 right;rw[zfQ h];simp[ByteArray.toList,ByteArray.toList.loop,ByteArray.size,ByteArray.get!]
theorem zH0:zhz ⟨#[116]⟩ := .inl oD
theorem zDP (k:Int):CallsM prog 151 [.int .i64 k] M fun v M'=>v = .string (zaD k)∧M.le M':=by
 refine zry oS ?_;refine zM (zd6 k) ?_;rintro v M1 ⟨rfl,hle1⟩;by_cases hk:k<1∨99999<k
 ·have e1:zb k=ByteArray.empty:=by unfold zb;rw[if_pos hk]
  have e2:zaD k=ByteArray.empty:=by unfold zaD;rw[if_pos hk]
  rw[e1,e2];refine brn_f rfl ?_;refine zR ?_;exact⟨rfl,hle1⟩
 ·have e1:zb k=zkk k:=zgX hk;have e2:zaD k=⟨#[115]⟩++zf7 k:=by unfold zaD;rw[if_neg hk]
  rw[e1,e2];have hne:¬zkk k=ByteArray.empty:=fun h=>by have:=congrArg ByteArray.size h;exact absurd this (by show ¬(6:Nat)=0;decide)
  refine brn_t (by simp[hne]) ?_;refine zR ?_;refine ob (by show (0:Int)≤1∧(1:Int)≤((6:Nat):Int)∧((6:Nat):Int)≤((6:Nat):Int);decide) ?_;have htl:(zkk k).extract (1:Int).toNat (((zkk k).size:Nat):Int).toNat=zf7 k:=rfl
  rw[htl];refine ob (by show (1:Nat)+5≤_;decide) ?_;refine zR ?_;exact⟨rfl,hle1⟩
theorem zH1 {c:Nat} {T0:TypeId} {cs:List Value} (hc:M.has c T0 cs) (hd:cs[1]? = some (ptr p)) (h:FreshD M0 M p b D es) (s:ByteArray):CallsM prog 147 [ptr c,.string s] M fun v M'=>v = .bool (D.l.any fun f=>decide (f.name=s))∧M.le M':=by
 refine zkL oS ?_;refine zR ?_;refine on (hc.c1 hd) ?_;refine zM (zmt h.at' h.rel h.inv) ?_;rintro v M1 ⟨na,nc,rfl,hNm⟩;have hln:=h.inv.len
 refine zR ?_;refine zdX (σ:=Nat) [13] (fun i=>[(13,.int .i64 i)]) (fun i=>i≤D.l.length∧(D.l.take i).any (fun f=>decide (f.name=s))=false) (fun i=>D.l.length - i) 0 ⟨by omega,by simp⟩ zS ?_;rintro i ⟨hi,hall⟩;refine brn (fun e=>?_) (fun e=>?_)
 ·have hlt:i<D.l.length:=by have:=Zd0 e;omega
  obtain⟨hk1,b1,o1,e1,hr1⟩:=hNm.src.at (i:=i) hlt;have hnm:(D.l.map (·.name))[i]=D.l[i].name:=by simp
  rw[hnm] at hr1
  have htk:(D.l.take (i+1)).any (fun f=>decide (f.name=s))=decide (D.l[i].name=s):=by
   rw[Yz,Yb hlt,List.any_append,hall];simp
  have hmem:D.l[i]∈D.l:=Yab hlt;generalize D.l[i]=f at *;refine ob (by omega) ?_;refine atp e1 ?_;refine on hr1 ?_;refine brn (fun g=>?_) (fun g=>?_)
  ·refine zR ?_;refine⟨?_,hNm.le⟩;congr 1;rw[eq_comm,Ybn];exact⟨f,hmem,g⟩
  ·refine zR ?_;refine obr (inR_i64 (by omega)) ?_;exact⟨i+1,⟨by omega,by simp_all⟩,by omega,zS⟩
 ·have hge:i=D.l.length:=by have:=Zd1 e;omega
  rw[hge,Yai] at hall;refine zR ?_;exact⟨by rw[hall],hNm.le⟩
end
section
variable {M M0:Mem} {p b:Nat} {D:ze} {es:FsT}
theorem zr6 {k:Int} (h:¬(k<1∨99999<k)):(((zaD k).toList.getD 0 0).toNat:Int)=115:=by
 rw[zfQ h];simp[ByteArray.toList,ByteArray.toList.loop,ByteArray.size,ByteArray.get!]
def NamesC (D:ze):Prop:=∀ f∈D.l,(∃ k:Int,¬(k<1∨99999<k)∧f.name=zb k)∨(∃ k:Int,¬(k<1∨99999<k)∧f.name=zaD k)∨f.name=⟨#[116]⟩
theorem NamesC.w (h:NamesC D):NamesW D:=fun f hf=>by
 rcases h f hf with h1|⟨k,h1,h2⟩|h1
 ·simp_all
 ·exact .inr (h2▸zwe h1)
 ·exact .inr (h1▸zH0)
def zgO (s:ByteArray):Int:=if s.size=6∧((s.toList.getD 0 0).toNat:Int)=115 then ((bl s).drop 1).foldl (fun a c=>10*a+((c.toNat:Int) - 48)) 0 else 0
theorem zr7 {k:Int} (h:¬(k<1∨99999<k)):zgO (zaD k)=k:=by
 have h1:zgO (zaD k)=((bl (zaD k)).drop 1).foldl (fun a c=>10*a+((c.toNat:Int) - 48)) 0:=if_pos ⟨by rw[zfQ h];rfl,zr6 h⟩;have h2:=zcs h
 rw[zgX h,zcO,if_pos ⟨rfl,by omega⟩] at h2;rw[h1,zfQ h];exact h2
theorem zwf {s:ByteArray} (h:s.size≠6∨((s.toList.getD 0 0).toNat:Int)≠115):zgO s=0:=if_neg fun ⟨a,b⟩=>h.elim (fun h=>h a) fun h=>h b
def zgC (D:ze):List Int:=(D.l.map fun f=>zgO f.name).filter fun k=>decide (0<k)
theorem NamesC.num (h:NamesC D) {f:FileR} (hf:f∈D.l):(∃ k:Int,¬(k<1∨99999<k)∧f.name=zaD k∧zgO f.name=k)∨((f.name.size≠6∨((f.name.toList.getD 0 0).toNat:Int)≠115)∧zgO f.name=0):=by
 rcases h f hf with ⟨k,h1,h2⟩|⟨k,h1,h2⟩|h1
 ·have:f.name.size≠6∨((f.name.toList.getD 0 0).toNat:Int)≠115 := .inr (by rw[h2,zgX h1,zzZ];decide);exact .inr ⟨this,zwf this⟩
 ·exact .inl ⟨k,h1,h2,by rw[h2,zr7 h1]⟩
 ·have:f.name.size≠6∨((f.name.toList.getD 0 0).toNat:Int)≠115 := .inl (by rw[h1];decide);exact .inr ⟨this,zwf this⟩
set_option maxRecDepth 10000 in
theorem zDQ {c:Nat} {T0:TypeId} {cs:List Value} (hc:M.has c T0 cs) (hd:cs[1]? = some (ptr p)) (h:FreshD M0 M p b D es) (hW:NamesC D) :
  CallsM prog 149 [ptr c] M fun v M'=>∃ a n cc,v = .slice a n cc∧n=(zgC D).length∧NewSl M 3 1 a n cc ((zgC D).map zj) M':=by
 refine zjs oS ?_;refine zR ?_;refine on (hc.c1 hd) ?_;refine zM (zmt h.at' h.rel h.inv) ?_;rintro v M1 ⟨na,nc,rfl,hNm⟩;have hln:=h.inv.len
 refine zR ?_
 refine zan (σ:=Nat×Mem×Option Addr×Nat×List Int) [15,3] (fun y=>[(15,.int .i64 y.1),(3,.slice y.2.2.1 y.2.2.2.2.length y.2.2.2.1)]) (fun _=>[]) (fun y=>y.2.1)
  (fun|⟨i,Mc,a,c,out⟩=>i≤D.l.length∧NewSl M1 3 1 a out.length c (out.map zj) Mc∧out=((D.l.take i).map fun f=>zgO f.name).filter (fun k=>decide (0<k))∧out.length≤i) (fun y=>D.l.length - y.1) ⟨0,M1,none,0,[]⟩ ⟨by omega,Yat M1 3 1,by simp,by simp⟩ zS ?_
 rintro ⟨i,Mc,a,c,out⟩ ⟨hi,hN,hout,hol⟩;refine brn (fun e=>?_) (fun e=>?_)
 ·have hlt:i<D.l.length:=by have:=Zd0 e;dsimp only at this;omega
  obtain⟨hk1,b1,o1,e1,hr1⟩:=(hNm.src.le hN.le).at (i:=i) hlt;have hx:D.l[i]? = some D.l[i]:=Yb hlt
  have hnm:(D.l.map (·.name))[i]=D.l[i].name:=by simp
  rw[hnm] at hr1;have hnum:=hW.num (Yak hx)
  have htk:((D.l.take (i+1)).map fun f=>zgO f.name).filter (fun k=>decide (0<k))=((D.l.take i).map fun f=>zgO f.name).filter (fun k=>decide (0<k))++(if decide (0<zgO D.l[i].name)=true then [zgO D.l[i].name] else []):=by
   rw[Yz,hx,Y4,Ycf];congr 1;cases hpk:decide (0<zgO D.l[i].name)<;>simp[hpk]
  generalize D.l[i]=f at *;rcases hnum with ⟨k,hk,hnn,hkk⟩|⟨hno,hn0⟩
  rotate_left
  ·rw[hn0,if_neg oS,Ys] at htk;refine ob (by omega) ?_;refine atp e1 ?_;refine on hr1 ?_;refine brn (fun g=>?_) (fun g=>?_)
   ·refine zR ?_;refine obr (inR_i64 (by omega)) ?_;exact⟨⟨i+1,Mc,a,c,out⟩,⟨by omega,hN,by simp_all,by omega⟩,by omega,zS⟩
   ·have g1:f.name.size=6:=by have:(f.name.size:Int)=6:=by simpa using g
                              omega
    refine ob (by omega) ?_;refine brn_t (by simp_all) ?_;refine zR ?_;refine obr (inR_i64 (by omega)) ?_;exact⟨⟨i+1,Mc,a,c,out⟩,⟨by omega,hN,by simp_all,by omega⟩,by omega,zS⟩
  have hkp:decide (0<k)=true:=decide_eq_true oM;rw[hkk,hkp,if_pos rfl] at htk;rw[hnn,zfQ hk] at hr1;refine ob (by omega) ?_;refine atp e1 ?_;refine on hr1 ?_;have hhd:(((⟨#[115,dgB k 4,dgB k 3,dgB k 2,dgB k 1,dgB k 0]⟩:ByteArray).toList.getD 0 0).toNat:Int)=115:=by rw[←zfQ hk];exact zr6 hk
  have hnn0:0≤k:=by omega
  have hdlt:∀ j,(dgB k j).toNat<128:=fun j=>by have:=zcF hnn0 j;omega
  have htl:(⟨#[115,dgB k 4,dgB k 3,dgB k 2,dgB k 1,dgB k 0]⟩:ByteArray).extract (1:Int).toNat ((((⟨#[115,dgB k 4,dgB k 3,dgB k 2,dgB k 1,dgB k 0]⟩:ByteArray).size:Nat):Int)).toNat=zf7 k:=rfl;refine brn_f (by rfl) ?_;refine ob (by show (0:Int)≤0∧(0:Int)<((6:Nat):Int);decide) ?_;refine brn_f (by simp) ?_;refine ob (by show (0:Int)≤1∧(1:Int)≤((6:Nat):Int)∧((6:Nat):Int)≤((6:Nat):Int);decide) ?_;refine new (fun b2 hb2=>?_);replace hb2:Mc b2=none:=hb2;refine zan (σ:=Nat) [6] (fun j=>[(6,.int .i64 (zdk k j))]) (fun _=>[]) (fun j=>Mc.upd b2 (.stringIter (zf7 k) j)) (fun j=>j≤5) (fun j=>5 - j) 0 oM zS ?_;intro j hj;have hsit:(Mc.upd b2 (.stringIter (zf7 k) j)).sitAt b2=some (zf7 k,j):=by simp[Mem.sitAt,Mem.upd]
  refine on hsit ?_;refine⟨fun hlt5=>⟨?_,?_⟩,fun hno=>?_⟩
  ·have hi5:j<5:=hlt5
   match j,hi5 with
   | 0,_=>exact hdlt 4
   | 1,_=>exact hdlt 3
   | 2,_=>exact hdlt 2
   | 3,_=>exact hdlt 1
   | 4,_=>exact hdlt 0
  ·have hi5:j<5:=hlt5;have hb:48≤((dgB k (4 - j)).toNat:Int)∧((dgB k (4 - j)).toNat:Int)≤57:=by have:=zcF hnn0 (4 - j);omega
   have ha:0≤zdk k j∧zdk k j≤99999:=by
    obtain⟨c1,c2,c3,c4,c5⟩:=zmq hnn0 oM
    match j,hi5 with
    | 0,_=>show (0:Int)≤0∧(0:Int)≤99999;omega
    | 1,_=>omega
    | 2,_=>omega
    | 3,_=>omega
    | 4,_=>omega
   have hget:((zf7 k).get! j)=dgB k (4 - j):=by
    match j,hi5 with
    | 0,_=>rfl
    | 1,_=>rfl
    | 2,_=>rfl
    | 3,_=>rfl
    | 4,_=>rfl
   rw[hget];refine brn_t rfl ?_;refine obr (inR_i64 oM) ?_;refine obr (zyo oM) ?_;refine obr (inR_i64 (by rw[zmp oM];omega)) ?_;refine⟨j+1,by omega,by omega,?_⟩;refine⟨(by repeat' first|exact True.intro|refine⟨rfl,?_⟩),(by repeat' first|exact True.intro|refine⟨rfl,?_⟩),?_,rfl⟩;dsimp only;rw[Mem.upd_upd];exact Ya _
  ·have hi5:j=5:=by have:¬j<5:=hno;omega
   subst hi5;obtain⟨-, -, -, -, c5⟩:=zmq hnn0 oM;refine brn_f rfl ?_;refine zR ?_;rw[c5];refine(zDP k).mono ?_;rintro v M3 ⟨rfl,hle3⟩;rw[zfQ hk];refine brn_t oS ?_;have hN3:=(hN.up (Ya6 hb2)).up hle3
   refine zR ?_;refine zcp M1 _ hN3 (by grind) (by simp[maxLen];omega) oC fun a4 c4 M4 hN4=>?_
   refine obr (inR_i64 (by omega)) ?_;refine⟨⟨i+1,M4,a4,c4,out++[k]⟩,⟨by omega,by simpa using hN4,by simp_all,by simp;omega⟩,by omega,?_⟩;rw[Yi];exact zS
 ·have hge:i=D.l.length:=by have:=Zd1 e;dsimp only at this;omega
  subst hge;rw[Yai] at hout;refine zR ?_;exact⟨a,out.length,c,rfl,by rw[hout];rfl,by rw[show zgC D=out from hout.symm];exact hN.mono hNm.le⟩
end
section
variable {M M0:Mem} {p b:Nat} {D:ze} {es:FsT}
structure CuW where
 snap:Int
 failed:Bool
 spent:Bool
@[reducible] def zhB (sp p:Nat) (g:Value) (W:CuW):List Value:=[ptr sp,ptr p,g,.int .i64 W.snap,.bool W.failed,.bool W.spent]
def zib (W:CuW) (e:Int):CuW:={ W with failed:=W.failed||decide (e=9) }
theorem ztS {c sp:Nat} {g:Value} {W:CuW} (h:M.has c 153 (zhB sp p g W)):CallsM prog 68 [ptr c] M fun v M'=>v = .int .i64 (if W.failed=true then 7 else 0)∧M=M':=by
 refine zjq oS ?_;obtain⟨sn,fl,sp2⟩:=W;cases fl
 ·refine zR ?_;refine on (h.c1 (o:=4) rfl) ?_;refine zR ?_;exact⟨rfl,rfl⟩
 ·refine zR ?_;refine on (h.c1 (o:=4) rfl) ?_;refine zR ?_;exact⟨rfl,rfl⟩
theorem zDR {c sp:Nat} {g:Value} {W:CuW} (h:M.has c 153 (zhB sp p g W)) (e:Int):CallsM prog 131 [ptr c,.int .i64 e] M fun v M'=>v = .int .i64 e∧M'=M.setCells c 153 (zhB sp p g (zib W e)):=by
 refine zjS oS ?_;obtain⟨sn,fl,sp2⟩:=W;cases fl
 ·refine zR ?_;refine on (h.c1 (o:=4) rfl) ?_;refine zR ?_;refine on h.cells ?_;refine ob oS ?_;refine zR ?_;exact⟨rfl,rfl⟩
 ·refine zR ?_;refine on (h.c1 (o:=4) rfl) ?_;refine zR ?_;refine on h.cells ?_;refine ob oS ?_;refine zR ?_;exact⟨rfl,rfl⟩
def zbE (D:ze):ze×Int:=if (D.l.any fun f=>decide (f.name=⟨#[116]⟩))=true then zae D ⟨#[116]⟩ else (D,0)
end
end Go.Proofs.YtlgbofpennelhaaGreat
namespace Go.Proofs.YtlgbofpennelhaaGreat
open Go Go.Vm
variable {D:ze} {L:zaM} {last:Int} {l:List FileR} {put:List (List UInt8)} {safe:Nat}
def zDS (l:List FileR) (last:Int) (parts cur:List (List UInt8)) (safe:Nat):Prop:=
 (zh l (zb last)=none∧cur=[]∧safe≤parts.length)∨∃ s t j,zh l (zb last)=some ⟨zb last,s,t⟩∧bl s++bl t=zbo cur∧j≤cur.length∧zap (cur.take j)≤s.size∧safe≤parts.length+j
structure zKW (last:Int) (l:List FileR) (put:List (List UInt8)) (safe:Nat):Prop where
 ok:∀ q∈put,zcV q
 last1:1≤last∧last≤99999
 names:∀ f∈l,∃ k:Int,1≤k∧k≤last∧f.name=zb k
 seg:∃ (parts:List (List (List UInt8))) (cur:List (List UInt8)),(parts.length:Int)+1=last∧put=parts.flatten++cur ∧
  (∀ (i:Nat) q,parts[i]? = some q→∃ s:ByteArray,zh l (zb ((i:Int)+1))=some ⟨zb ((i:Int)+1),s,.empty⟩∧bl s=zbo q)∧zDS l last parts.flatten cur safe
theorem zlm {j k:Int} (hj:1≤j∧j≤99999) (hk:1≤k∧k≤99999) (h:j≠k):zb j≠zb k:=fun e=>h (zjH oM oM e)
theorem zdv:bl .empty=[]:=rfl
theorem ztT {b:ByteArray} (h:b.size=0):b = .empty:=zlj (by simp_all)
def zuR (l:List FileR) (last:Int):Prop:=∀ f,zh l (zb last)=some f→f.tail = .empty
theorem zja {D:ze} {s:ByteArray} (hd:D.down=false) (hn:zbX s=true):(zax D s).1=match zh D.l s with|some f=>f.all|none => .empty:=by
 have hr:zaH D s=if zh D.l s=none then 4 else 0:=by unfold zaH za5;simp[hd,hn]
 unfold zax;rw[hr];cases hf:zh D.l s with
 | none=>simp
 | some f=>simp[zt,hf]
theorem zcW {k:Int} (h:1≤k∧k≤99999):zbX (zb k)=true:=by
 have hn:¬(k<1∨99999<k):=by omega
 rw[zgX hn];have hnn:0≤k:=by omega
 have d0:=zcF hnn 0;have d1:=zcF hnn 1
 have d2:=zcF hnn 2;have d3:=zcF hnn 3
 have d4:=zcF hnn 4;unfold zbX;rw[Yu,Ya4];refine⟨rfl,fun c hc=>?_⟩;have hc':c∈[119,dgB k 4,dgB k 3,dgB k 2,dgB k 1,dgB k 0]:=hc
 simp only[Yq,Ycp,or_false] at hc';apply decide_eq_true;rcases hc' with rfl|rfl|rfl|rfl|rfl|rfl
 ·simp
 all_goals right;left;omega
theorem zB0 (D:ze) (L:zaM):(syncL D L).2.1.last=L.last:=(zi8 D L).1
end Go.Proofs.YtlgbofpennelhaaGreat
