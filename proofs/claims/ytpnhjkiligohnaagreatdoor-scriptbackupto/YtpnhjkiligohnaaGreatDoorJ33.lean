/- Part of this proof;laid by program. -/
import Derived.Test.YtpnhjkiligohnaaGreatDoorJ32
set_option linter.unusedVariables false
set_option linter.unusedSimpArgs false
namespace Go.Proofs.YtpnhjkiligohnaaGreatDoor
open Go Go.Vm
attribute [local irreducible] Brn Ob Grow CallsM inR zbf zaW Mem.row Mem.cells Mem.setCells Mem.upd Go.Vm.Own zbO zcz zcc zbE New SrcOk zap NewSl Mem.textAt Mem.mapAt Mem.iterAt zaV kfind Wr zch Elems
set_option maxRecDepth 10000
variable {M B B0:Mem}
theorem zNJ {ao:Option Addr} {no co:Nat} {lI:List (Int×Int)} {oth:List (Nat×Nat)} (hO:SrcOk M 2 ao no (lI.flatMap zdO)) (hmem:∀ a b:Nat,a+1<b→b<64→(((a:Int),(b:Int))∈lI↔(a,b)∈oth)) (hno2:no≤1048576) {n:Nat} (hn:n≤64) :
  CallsM Tryz.prog F.ziI [.int .i64 n,.slice ao no co] M fun v M'=>∃ q c,v = .slice q (zb2 n oth).length c∧NewSl M T.zaD 2 q (zb2 n oth).length c ((zb2 n oth).flatMap zkv) M':=by
 refine zC6 (by simp) ?_;(conv=>whnf);refine new (fun b hb=>?_);replace hb:M b=none:=hb;obtain⟨M1,hM1⟩:∃ M1,M1=M.setCells b T.zaD []:=⟨_,rfl⟩
 have h0:NewSl M T.zaD 2 (some ⟨b,0,none⟩) 0 0 ([].flatMap zkv) M1:=hM1▸NewSl.lit hb _ _ _ [] rfl;(conv=>whnf)
 erw [←hM1]
 refine zgk (σ:=Nat×Mem×Option Addr×Nat×Nat) [6,5,7] (fun y=>[(6,.int .i64 y.1),(5,.slice y.2.2.1 y.2.2.2.1 y.2.2.2.2)]) (fun _=>[]) (fun y=>y.2.1)
  (fun|⟨a,Mc,q,k,cq⟩=>a≤n∧k=(za5 n oth a).length∧NewSl M T.zaD 2 q k cq ((za5 n oth a).flatMap zkv) Mc) (fun y=>n - y.1) ⟨0,M1,some ⟨b,0,none⟩,0,0⟩ ⟨by omega,rfl,h0⟩ zS ?_
 rintro ⟨a,Mc,q,k,cq⟩ ⟨ha,hk,hN⟩;(conv=>whnf);refine brn (fun g=>?_) (fun g=>?_)
 ·have g':a<n:=by have:=Zd0 g;dsimp only at this;omega
  refine zR ?_;refine obr (zx (by first|omega|(dsimp only;omega))) ?_;(conv=>whnf)
  refine zgk (σ:=Nat×Mem×Option Addr×Nat×Nat) [7,5] (fun y=>[(7,.int .i64 ((a+1+y.1:Nat):Int)),(5,.slice y.2.2.1 y.2.2.2.1 y.2.2.2.2)]) (fun _=>[]) (fun y=>y.2.1)
   (fun|⟨j,Md,q,k,cq⟩=>a+1+j≤n∧k=(za5 n oth a++zaR oth a j).length∧NewSl M T.zaD 2 q k cq ((za5 n oth a++zaR oth a j).flatMap zkv) Md) (fun y=>n - (a+1+y.1)) ⟨0,Mc,q,k,cq⟩ ⟨by omega,by simp[zaR,hk],by simpa[zaR] using hN⟩ zS ?_
  rintro ⟨j,Md,q,k,cq⟩ ⟨hj,hk,hN⟩;have hpl:=zsv n oth a
  have hrl:=zsu oth a j;have hnn:a*n≤64*64:=Nat.mul_le_mul (by omega) hn
  rw[List.length_append] at hk;(conv=>whnf);refine brn (fun e=>?_) (fun e=>?_)
  ·have e':a+1+j<n:=by have:=Zd0 e;dsimp only at this;omega
   (conv=>whnf);refine obr (zx (by first|omega|(dsimp only;omega))) ?_;(conv=>whnf);refine brn (fun f=>?_) (fun f=>?_)
   ·have f':j=0:=by have:=Zd0 f;dsimp only at this;omega
    have hyes:a+1+j=a+1∨(a,a+1+j)∈oth := .inl (by omega);have e1:lk1 oth a (a+1+j)=[(a,a+1+j)]:=by unfold lk1;rw[if_pos hyes]
    have e2:(za5 n oth a++zaR oth a (j+1))=(za5 n oth a++zaR oth a j)++[(a,a+1+j)]:=by rw[zdc,e1,List.append_assoc]
    refine zR ?_;refine zDi M hN (a,a+1+j) rfl (by dsimp only;omega) (by dsimp only;simp[maxLen];omega) (by intro u hu;simp at hu;rcases hu with rfl|rfl<;>rfl) fun q6 c6 M6 h6 hk6=>?_
    refine zR ?_;refine obr (zx (by first|omega|(dsimp only;omega))) ?_;(conv=>whnf)
    refine⟨⟨j+1,M6,q6,k+1,c6⟩,⟨by omega,by rw[e2,List.length_append];simp[hk],by rw[e2];exact h6⟩,by dsimp only;omega,?_⟩;rw[show ((a+1+(j+1):Nat):Int)=((a+1+j:Nat):Int)+1 by omega];exact zS
   ·have f':j≠0:=by have:=Zd1 f;dsimp only at this;omega
    (conv=>whnf);refine(zPZ (hO.le hN.le) hno2 ((a:Nat),(a+1+j:Nat))).mono ?_;rintro u Md ⟨rfl,rfl⟩;(conv=>whnf);refine brn (fun hg=>?_) (fun hg=>?_)
    ·have hyes:a+1+j=a+1∨(a,a+1+j)∈oth := .inr ((hmem a (a+1+j) (by omega) (by omega)).1 (Zd0 hg));have e1:lk1 oth a (a+1+j)=[(a,a+1+j)]:=by unfold lk1;rw[if_pos hyes]
     have e2:(za5 n oth a++zaR oth a (j+1))=(za5 n oth a++zaR oth a j)++[(a,a+1+j)]:=by rw[zdc,e1,List.append_assoc]
     refine zR ?_;refine zDi M hN (a,a+1+j) rfl (by dsimp only;omega) (by dsimp only;simp[maxLen];omega) (by intro u hu;simp at hu;rcases hu with rfl|rfl<;>rfl) fun q6 c6 M6 h6 hk6=>?_
     refine zR ?_;refine obr (zx (by first|omega|(dsimp only;omega))) ?_;(conv=>whnf)
     refine⟨⟨j+1,M6,q6,k+1,c6⟩,⟨by omega,by rw[e2,List.length_append];simp[hk],by rw[e2];exact h6⟩,by dsimp only;omega,?_⟩;rw[show ((a+1+(j+1):Nat):Int)=((a+1+j:Nat):Int)+1 by omega];exact zS
    ·have hno:¬(a+1+j=a+1∨(a,a+1+j)∈oth):=by
      rintro (h|h)
      ·omega
      ·exact Zd1 hg ((hmem a (a+1+j) (by omega) (by omega)).2 h)
     have e2:(za5 n oth a++zaR oth a (j+1))=(za5 n oth a++zaR oth a j):=by rw[zdc];unfold lk1;rw[if_neg hno,List.append_nil]
     refine zR ?_;refine obr (zx (by first|omega|(dsimp only;omega))) ?_;(conv=>whnf)
     refine⟨⟨j+1,Md,q,k,cq⟩,⟨by omega,by rw[e2,List.length_append];exact hk,by rw[e2];exact hN⟩,by dsimp only;omega,?_⟩;rw[show ((a+1+(j+1):Nat):Int)=((a+1+j:Nat):Int)+1 by omega];exact zS
  ·have e':a+1+j=n:=by have:=Zd1 e;dsimp only at this;omega
   have e2:za5 n oth (a+1)=za5 n oth a++zaR oth a j:=by rw[zoi,show n - (a+1)=j by omega]
   refine zR ?_;refine obr (zx (by first|omega|(dsimp only;omega))) ?_;(conv=>whnf)
   exact⟨⟨a+1,Md,q,k,cq⟩,⟨by omega,by rw[e2,List.length_append];exact hk,by rw[e2];exact hN⟩,by dsimp only;omega,zS⟩
 ·have g':a=n:=by have:=Zd1 g;dsimp only at this;omega
  subst g';refine zR ?_;(conv=>whnf)
  subst hk;exact⟨q,cq,rfl,hN⟩
end Go.Proofs.YtpnhjkiligohnaaGreatDoor
namespace Go.Proofs.YtpnhjkiligohnaaGreatDoor
section
structure StpI where
 kind:Int
 node:Int
 to:Int
 n:Int
 data:List UInt8
theorem StpI.ext' {x y:StpI} (h1:x.kind=y.kind) (h2:x.node=y.node) (h3:x.to=y.to) (h4:x.n=y.n) (h5:x.data=y.data):x=y:=by
 cases x;cases y;simp_all
def StpR.toI (x:StpR):StpI:=⟨x.kind,x.node,x.to,x.n,x.data⟩
def zy (x:Int×Nat×Nat):Bool:=decide (0≤x.1)&&decide (x.1.tmod x.2.1=0)&&decide (x.1.tdiv x.2.1<x.2.2)
def zI (x:Int×Nat×Nat):UInt8:=UInt8.ofNat (x.1.tdiv x.2.1 % 256).toNat
def zaU (n:Int):List (Int×Nat×Nat):=if n=0 then [] else [(-1,1,1)]
def zaJ (nodes:Nat) (x:StpI) (r:Nat):List (Int×Nat×Nat):=
 match r with
 | 0=>[(x.node,1,nodes),(x.to,1,256)]++(zaU x.n++[((x.data.length:Int),1,64)])
 | 2=>zaU x.node++(zaU x.to++(zaU x.n++zaU x.data.length))
 | 3=>[(x.node,1,nodes),(x.to,1,nodes),(x.n,1,256)]++zaU x.data.length
 | 4=>[(x.node,1,nodes),(x.to,1,nodes),(x.n,1,256)]++zaU (x.data.length - 1)
 | 5=>[(x.node,1,nodes),(x.to,1,nodes),(x.n,1,256)]++zaU (x.data.length - 1)
 | 6=>[(x.node,1,nodes)]++(zaU x.to++(zaU x.n++[((x.data.length:Int),1,8)]))
 | 8=>[(x.node,1,nodes)]++(zaU x.to++([(x.n,256,256)]++zaU x.data.length))
 | 10=>[(x.node,1,nodes)]++(zaU x.to++([(x.n,1,64)]++zaU x.data.length))
 | 11=>zaU x.node++(zaU x.to++([(x.n,1,256)]++zaU x.data.length))
 | _=>[(x.node,1,nodes)]++(zaU x.to++(zaU x.n++zaU x.data.length))
def zag (nodes:Nat) (x:StpI):List (Int×Nat×Nat):=(x.kind - 1,1,12)::zaJ nodes x (x.kind - 1).toNat
def zMc (nodes:Nat) (x:StpI):Option (List UInt8):=
 if (1≤x.kind∧x.kind≤12)∧(zag nodes x).all zy=true then some ((zag nodes x).map zI++x.data) else none
def zh (n:Int):UInt8:=UInt8.ofNat (n % 256).toNat
def zdo (x:StpI) (r:Nat):List UInt8:=
 match r with
 | 0=>[zh x.node,zh x.to,zh x.data.length]
 | 2=>[]
 | 3=>[zh x.node,zh x.to,zh x.n]
 | 4=>[zh x.node,zh x.to,zh x.n]
 | 5=>[zh x.node,zh x.to,zh x.n]
 | 6=>[zh x.node,zh x.data.length]
 | 8=>[zh x.node,zh (x.n / 256)]
 | 10=>[zh x.node,zh x.n]
 | 11=>[zh x.n]
 | _=>[zh x.node]
def zas (x:StpI):List UInt8:=zh (x.kind - 1)::(zdo x (x.kind - 1).toNat++x.data)
def ziX (x:StpI):Prop:=(1≤x.kind∧x.kind≤12)∧(0≤x.node∧x.node≤63)∧(0≤x.to∧x.to≤255)∧(0≤x.n∧x.n≤65535)∧x.data.length≤63
theorem zP0 (pre own:List UInt8) (i:Nat):(pre++own).getD (pre.length+i) 0=own.getD i 0:=by
 simp[List.getD_eq_getElem?_getD,List.getElem?_append_right]
theorem zMd (pre own:List UInt8) (i k:Nat):zbH (pre++own) (pre.length+i) k=zbH own i k:=by
 unfold zbH;refine List.map_congr_left fun j _=>?_
 rw[Nat.add_assoc,zP0]
theorem zMe (own post:List UInt8):zbH (own++post) 0 own.length=own:=by
 unfold zbH;apply List.ext_getElem
 ·simp
 ·intro i h1 h2;simp[List.getElem?_append_left h2,List.getElem?_eq_getElem h2]
theorem zP1 {n:Int} {m:Nat} (hm:0<m) (h:0≤n∧n<m) (hm2:m≤256):(zh n).toNat % m=n.toNat:=by
 unfold zh;have:(n % 256).toNat=n.toNat:=by omega
 rw[this,UInt8.toNat_ofNat',Nat.mod_eq_of_lt (by omega:n.toNat<2 ^ 8),Nat.mod_eq_of_lt (by omega)]
theorem zq2 (n:Int) (m:Nat):zy (n,1,m)=true↔0≤n∧n<m:=by
 unfold zy;simp
theorem zRb (n:Int):zy (n,256,256)=true↔0≤n∧n % 256=0∧n≤65535:=by
 unfold zy;simp only[Bool.and_eq_true,decide_eq_true_eq];constructor
 ·rintro ⟨⟨h1,h2⟩,h3⟩;rw[Int.tmod_eq_emod_of_nonneg h1] at h2;rw[Int.tdiv_eq_ediv_of_nonneg h1] at h3;omega
 ·rintro ⟨h1,h2,h3⟩;rw[Int.tmod_eq_emod_of_nonneg h1,Int.tdiv_eq_ediv_of_nonneg h1];omega
theorem zUn (n:Int):(zaU n).all zy=true↔n=0:=by
 unfold zaU;split
 ·simp[*]
 ·simp[zy, *]
theorem zxw (n:Int) (m:Nat):zI (n,1,m)=zh n:=by unfold zI zh;simp
theorem zRc (n:Int) (h:0≤n) (m:Nat):zI (n,256,m)=zh (n / 256):=by
 unfold zI zh;have e:n.tdiv ((256:Nat):Int)=n / 256:=Int.tdiv_eq_ediv_of_nonneg h
 rw[e]
theorem zGc {k:Int} (h:1≤k∧k≤12):k=1∨k=2∨k=3∨k=4∨k=5∨k=6∨k=7∨k=8∨k=9∨k=10∨k=11∨k=12:=by omega
def zlk (nodes:Nat) (x:StpI) (r:Nat):Prop:=
 match r with
 | 0=>(0≤x.node∧x.node<nodes)∧(0≤x.to∧x.to<256)∧x.n=0∧x.data.length<64
 | 2=>x.node=0∧x.to=0∧x.n=0∧x.data.length=0
 | 3=>(0≤x.node∧x.node<nodes)∧(0≤x.to∧x.to<nodes)∧(0≤x.n∧x.n<256)∧x.data.length=0
 | 4=>(0≤x.node∧x.node<nodes)∧(0≤x.to∧x.to<nodes)∧(0≤x.n∧x.n<256)∧x.data.length=1
 | 5=>(0≤x.node∧x.node<nodes)∧(0≤x.to∧x.to<nodes)∧(0≤x.n∧x.n<256)∧x.data.length=1
 | 6=>(0≤x.node∧x.node<nodes)∧x.to=0∧x.n=0∧x.data.length<8
 | 8=>(0≤x.node∧x.node<nodes)∧x.to=0∧(0≤x.n∧x.n % 256=0∧x.n≤65535)∧x.data.length=0
 | 10=>(0≤x.node∧x.node<nodes)∧x.to=0∧(0≤x.n∧x.n<64)∧x.data.length=0
 | 11=>x.node=0∧x.to=0∧(0≤x.n∧x.n<256)∧x.data.length=0
 | _=>(0≤x.node∧x.node<nodes)∧x.to=0∧x.n=0∧x.data.length=0
theorem zCL (nodes:Nat) (x:StpI) (r:Nat):(zaJ nodes x r).all zy=true↔zlk nodes x r:=by
 unfold zaJ zlk;split<;>simp only[List.all_append,List.all_cons,List.all_nil,Bool.and_true,Bool.and_eq_true,zq2,zRb,zUn]<;>omega
theorem zNK {nodes:Nat} {x:StpI} (h1:1≤x.kind∧x.kind≤12) (h2:zlk nodes x (x.kind - 1).toNat):zMc nodes x=some (zas x):=by
 unfold zMc
 have hg:(zag nodes x).all zy=true:=by
  unfold zag;rw[List.all_cons,Bool.and_eq_true];exact⟨(zq2 _ _).2 (by omega),(zCL ..).2 h2⟩
 rw[if_pos ⟨h1,hg⟩];congr 1;obtain⟨k,nd,to,n,data⟩:=x;dsimp only at h1 h2
 rcases zGc h1 with rfl|rfl|rfl|rfl|rfl|rfl|rfl|rfl|rfl|rfl|rfl|rfl <;>
  simp only[zlk,Int.reduceSub,Int.toNat_zero,Int.reduceToNat] at h2 <;>
  simp[zag,zaJ,zas,zdo,zxw,zRc,zaU,h2]
theorem zNL (pre own post:List UInt8) {k:Nat} (hk:k=own.length):zbH (pre++(own++post)) pre.length k=own:=by
 subst hk;have:=zMd pre (own++post) 0 own.length
 rw[Nat.add_zero] at this;rw[this,zMe]
theorem ziY {y:StpR} {x:StpI} (h1:(y.kind:Int)=x.kind) (h2:(y.node:Int)=x.node) (h3:(y.to:Int)=x.to) (h4:(y.n:Int)=x.n) (h5:y.data=x.data):y.toI=x:=StpI.ext' h1 h2 h3 h4 h5
theorem zcq {l:List UInt8} {i m:Nat} {n:Int} (h:l.getD i 0=zh n) (hm:0<m) (hn:0≤n∧n<m) (hm2:m≤256):((tkV l i m:Nat):Int)=n:=by
 unfold tkV;rw[h,zP1 hm hn hm2];omega
theorem zP2 {nodes:Nat} {x:StpI} (hN:0<nodes) (hN2:nodes≤64) (h1:1≤x.kind∧x.kind≤12) (h2:zlk nodes x (x.kind - 1).toNat) (post:List UInt8) :
  (zcL (zas x++post) nodes 0).1.toI=x∧(zcL (zas x++post) nodes 0).2=(zas x).length:=by
 obtain⟨k,nd,to,n,data⟩:=x;dsimp only at h1 h2;have hk:∀ l,((tkV (zh (k - 1)::l) 0 12:Nat):Int)=k - 1:=fun l=>zcq (by rfl) (by decide) (by omega) (by decide)
 have hst:∀ (l:List UInt8) (r:Nat),(r:Int)=k - 1→zcL (zh (k - 1)::l) nodes 0=ze7 (zh (k - 1)::l) nodes 0 r:=fun l r hr=>by
  have e:tkV (zh (k - 1)::l) 0 12=r:=by have:=hk l;omega
  unfold zcL;rw[e]
 have hb:∀ (pre:List UInt8) (j:Nat) (m:Nat),pre.length=j→m=data.length→zbH (pre++(data++post)) j m=data:=fun pre j m hj hm=>by
  subst hj;exact zNL pre data post hm
 have hd0:data.length=0→data=[]:=List.length_eq_zero_iff.1;unfold zas;dsimp only;rw[List.cons_append,List.append_assoc]
 rcases zGc h1 with rfl|rfl|rfl|rfl|rfl|rfl|rfl|rfl|rfl|rfl|rfl|rfl <;>
  simp only[zlk,Int.reduceSub,Int.toNat_zero,Int.reduceToNat] at h2
 ·rw[hst _ 0 rfl];have e3:((tkV (zh 0::zh nd::zh to::zh data.length::(data++post)) 3 64:Nat):Int)=data.length:=zcq (by rfl) (by decide) (by omega) (by decide)
  refine⟨ziY rfl (show ((tkV _ 1 nodes:Nat):Int)=nd from zcq (by rfl) hN h2.1 (by omega)) (show ((tkV _ 2 256:Nat):Int)=to from zcq (by rfl) (by decide) h2.2.1 (by decide)) h2.2.2.1.symm (hb [_,_,_,_] _ _ rfl (Int.ofNat.inj e3)),?_⟩;refine(congrArg (0+4 + ·) (Int.ofNat.inj e3)).trans ?_;simp[zdo];omega
 ·rw[hst _ 1 rfl];refine⟨ziY rfl (show ((tkV _ 1 nodes:Nat):Int)=nd from zcq (by rfl) hN h2.1 (by omega)) h2.2.1.symm h2.2.2.1.symm (hd0 h2.2.2.2).symm,?_⟩;simp[zdo,ze7,h2.2.2.2,hd0]
 ·rw[hst _ 2 rfl];refine⟨ziY rfl h2.1.symm h2.2.1.symm h2.2.2.1.symm (hd0 h2.2.2.2).symm,?_⟩;simp[zdo,ze7,h2.2.2.2,hd0]
 ·rw[hst _ 3 rfl];refine⟨ziY rfl (show ((tkV _ 1 nodes:Nat):Int)=nd from zcq (by rfl) hN h2.1 (by omega)) (show ((tkV _ 2 nodes:Nat):Int)=to from zcq (by rfl) hN h2.2.1 (by omega)) (show ((tkV _ 3 256:Nat):Int)=n from zcq (by rfl) (by decide) h2.2.2.1 (by decide)) (hd0 h2.2.2.2).symm,?_⟩;simp[zdo,ze7,h2.2.2.2,hd0]
 ·rw[hst _ 4 rfl];refine⟨ziY rfl (show ((tkV _ 1 nodes:Nat):Int)=nd from zcq (by rfl) hN h2.1 (by omega)) (show ((tkV _ 2 nodes:Nat):Int)=to from zcq (by rfl) hN h2.2.1 (by omega)) (show ((tkV _ 3 256:Nat):Int)=n from zcq (by rfl) (by decide) h2.2.2.1 (by decide)) (hb [_,_,_,_] _ _ rfl h2.2.2.2.symm),?_⟩;simp[zdo,ze7,h2.2.2.2]
 ·rw[hst _ 5 rfl];refine⟨ziY rfl (show ((tkV _ 1 nodes:Nat):Int)=nd from zcq (by rfl) hN h2.1 (by omega)) (show ((tkV _ 2 nodes:Nat):Int)=to from zcq (by rfl) hN h2.2.1 (by omega)) (show ((tkV _ 3 256:Nat):Int)=n from zcq (by rfl) (by decide) h2.2.2.1 (by decide)) (hb [_,_,_,_] _ _ rfl h2.2.2.2.symm),?_⟩;simp[zdo,ze7,h2.2.2.2]
 ·rw[hst _ 6 rfl];have e3:((tkV (zh 6::zh nd::zh data.length::(data++post)) 2 8:Nat):Int)=data.length:=zcq (by rfl) (by decide) (by omega) (by decide)
  refine⟨ziY rfl (show ((tkV _ 1 nodes:Nat):Int)=nd from zcq (by rfl) hN h2.1 (by omega)) h2.2.1.symm h2.2.2.1.symm (hb [_,_,_] _ _ rfl (Int.ofNat.inj e3)),?_⟩;refine(congrArg (0+3 + ·) (Int.ofNat.inj e3)).trans ?_;simp[zdo];omega
 ·rw[hst _ 7 rfl];refine⟨ziY rfl (show ((tkV _ 1 nodes:Nat):Int)=nd from zcq (by rfl) hN h2.1 (by omega)) h2.2.1.symm h2.2.2.1.symm (hd0 h2.2.2.2).symm,?_⟩;simp[zdo,ze7,h2.2.2.2,hd0]
 ·rw[hst _ 8 rfl];have e3:((tkV (zh 8::zh nd::zh (n / 256)::(data++post)) 2 256:Nat):Int)=n / 256:=zcq (by rfl) (by decide) (by omega) (by decide)
  refine⟨ziY rfl (show ((tkV _ 1 nodes:Nat):Int)=nd from zcq (by rfl) hN h2.1 (by omega)) h2.2.1.symm (show ((256*tkV (zh 8::zh nd::zh (n / 256)::(data++post)) 2 256:Nat):Int)=n by omega) (hd0 h2.2.2.2).symm,?_⟩;simp[zdo,ze7,h2.2.2.2,hd0]
 ·rw[hst _ 9 rfl];refine⟨ziY rfl (show ((tkV _ 1 nodes:Nat):Int)=nd from zcq (by rfl) hN h2.1 (by omega)) h2.2.1.symm h2.2.2.1.symm (hd0 h2.2.2.2).symm,?_⟩;simp[zdo,ze7,h2.2.2.2,hd0]
 ·rw[hst _ 10 rfl];refine⟨ziY rfl (show ((tkV _ 1 nodes:Nat):Int)=nd from zcq (by rfl) hN h2.1 (by omega)) h2.2.1.symm (show ((tkV _ 2 64:Nat):Int)=n from zcq (by rfl) (by decide) h2.2.2.1 (by decide)) (hd0 h2.2.2.2).symm,?_⟩;simp[zdo,ze7,h2.2.2.2,hd0]
 ·rw[hst _ 11 rfl];refine⟨ziY rfl h2.1.symm h2.2.1.symm (show ((tkV _ 1 256:Nat):Int)=n from zcq (by rfl) (by decide) h2.2.2.1 (by decide)) (hd0 h2.2.2.2).symm,?_⟩;simp[zdo,ze7,h2.2.2.2,hd0]
theorem zI4 (P:List UInt8) (v k:Nat):(zbH P v k).length=k:=by simp[zbH]
theorem zNM {nodes:Nat} (hN:0<nodes) (P:List UInt8) (v:Nat):(1≤(zcL P nodes v).1.toI.kind∧(zcL P nodes v).1.toI.kind≤12)∧zlk nodes (zcL P nodes v).1.toI ((zcL P nodes v).1.toI.kind - 1).toNat:=by
 have hr:=zpJ (P:=P) (v:=v) (m:=12) (by decide);have hn:=fun i=>zpJ (P:=P) (v:=i) (m:=nodes) hN
 have h256:=fun i=>zpJ (P:=P) (v:=i) (m:=256) (by decide)
 have h64:=fun i=>zpJ (P:=P) (v:=i) (m:=64) (by decide)
 have h8:=fun i=>zpJ (P:=P) (v:=i) (m:=8) (by decide)
 unfold zcL;generalize tkV P v 12=r at *;have hc:r=0∨r=1∨r=2∨r=3∨r=4∨r=5∨r=6∨r=7∨r=8∨r=9∨r=10∨r=11:=by omega
 have n1:=hn (v+1);have n2:=hn (v+2);have a1:=h256 (v+1);have a2:=h256 (v+2);have a3:=h256 (v+3);have b2:=h64 (v+2);have b3:=h64 (v+3);have c2:=h8 (v+2)
 rcases hc with rfl|rfl|rfl|rfl|rfl|rfl|rfl|rfl|rfl|rfl|rfl|rfl <;>
  simp[ze7,StpR.toI,zlk,zI4]<;>omega
end
section
@[reducible] def zeb (p:Nat×Nat):Int×Int:=((p.1:Int),(p.2:Int))
structure zoj where
 held:Int
 bytes:Int
 gaps:Int
 disk:Int
 seg:Int
 win:Int
 timer:Int
 tries:Int
 wait:Int
 delay:Int
structure zm5 where
 nodes:Int
 links:List (Int×Int)
 set:zoj
 steps:List StpI
def ScrR.toI (S:ScrR):zm5:=⟨S.nodes,S.links.map zeb,⟨S.held,S.bytes,S.gaps,S.disk,S.seg,S.win,S.timer,S.tries,S.wait,S.delay⟩,S.steps.map StpR.toI⟩
def zaK (n b:Int):Int:=if n<b then -1 else n - b
def zbN (s:zoj):List (Int×Nat×Nat):=[(s.held,1,256),(s.bytes,8,256),(s.gaps,1,256),(zaK s.disk 256,256,256),(zaK s.seg 16,1,256),(zaK s.win 1,1,63),(zaK s.timer 1,1,8),(zaK s.tries 1,1,4),(zaK s.wait 1,1,8),(s.delay,1,4)]
def zbZ (l:List (Int×Int)):List (Nat×Nat):=(l.filter fun p=>decide (0≤p.1∧p.1+1<p.2)).map fun p=>(p.1.toNat,p.2.toNat)
def zok (S:zm5):Prop:=
 (1≤S.nodes∧S.nodes≤64)∧S.steps.length≤256∧(zb2 S.nodes.toNat (zbZ S.links)).map zeb=S.links∧(zbZ S.links).length≤15∧(zbN S.set).all zy=true∧∀ x∈S.steps,(1≤x.kind∧x.kind≤12)∧zlk S.nodes.toNat x (x.kind - 1).toNat
def zmE (l:List (Nat×Nat)):List UInt8:=l.flatMap fun p=>[zh p.1,zh p.2]
def zA4 (S:zm5):List UInt8:=zh (S.nodes - 1)::zh (zbZ S.links).length::(zmE (zbZ S.links)++((zbN S.set).map zI++S.steps.flatMap zas))
theorem zIb {n:Nat} {o1 o2:List (Nat×Nat)} (h:∀ a b,a+1<b→b<n→((a,b)∈o1↔(a,b)∈o2)):zb2 n o1=zb2 n o2:=by
 have e1:∀ a k,a+1+k≤n→zaR o1 a k=zaR o2 a k:=by
  intro a k
  induction k with
  | zero=>intro _;rfl
  | succ k ih=>
   intro hk;rw[zdc,zdc,ih (by omega)];congr 1;unfold lk1;by_cases h0:k=0
   ·subst h0;simp
   ·have:=h a (a+1+k) (by omega) (by omega);simp only[this]
 have e2:∀ a,a≤n→za5 n o1 a=za5 n o2 a:=by
  intro a
  induction a with
  | zero=>intro _;rfl
  | succ a ih=>
   intro ha;rw[zoi,zoi,ih (by omega),e1 a _ (by omega)]
 exact e2 n (Nat.le_refl _)
theorem zR8 {oth:List (Nat×Nat)} {a b:Nat} {p:Nat×Nat}:p∈lk1 oth a b↔p=(a,b)∧(b=a+1∨(a,b)∈oth):=by
 unfold lk1;split
 ·simp only[List.mem_singleton];exact⟨fun h=>⟨h,by assumption⟩,fun h=>h.1⟩
 ·simp only[List.not_mem_nil,false_iff];exact fun h=>by simp_all
theorem zEB {oth:List (Nat×Nat)} {a:Nat} {p:Nat×Nat}:∀ k,p∈zaR oth a k↔p.1=a∧a<p.2∧p.2<a+1+k∧(p.2=a+1∨p∈oth)
 | 0=>by simp[zaR];omega
 | k+1=>by
  rw[zdc,List.mem_append,zEB k,zR8];obtain⟨x,y⟩:=p;simp only[Prod.mk.injEq];constructor
  ·rintro (⟨rfl,h1,h2,h3⟩|⟨⟨rfl,rfl⟩,h⟩)
   ·exact⟨rfl,h1,by omega,h3⟩
   ·exact⟨rfl,by omega,by omega,h⟩
  ·rintro ⟨rfl,h1,h2,h3⟩;by_cases hy:y=x+1+k
   ·exact .inr ⟨⟨rfl,hy⟩,by rw[←hy];exact h3⟩
   ·exact .inl ⟨rfl,h1,by omega,h3⟩
theorem zuU {n:Nat} {oth:List (Nat×Nat)} {p:Nat×Nat}:p∈zb2 n oth↔p.1<p.2∧p.2<n∧(p.2=p.1+1∨p∈oth):=by
 unfold zb2;simp only[List.mem_flatMap,List.mem_range,zEB];constructor
 ·rintro ⟨a,h1,rfl,h2,h3,h4⟩;exact⟨h2,by omega,h4⟩
 ·rintro ⟨h1,h2,h3⟩;exact⟨p.1,by omega,rfl,h1,by omega,h3⟩
theorem zNN {l:List (Nat×Nat)} {p:Nat×Nat}:p∈zbZ (l.map zeb)↔p∈l∧p.1+1<p.2:=by
 unfold zbZ;simp only[List.mem_map,List.mem_filter,decide_eq_true_eq];constructor
 ·rintro ⟨_,⟨⟨q,hq,rfl⟩,h1,h2⟩,rfl⟩;obtain⟨x,y⟩:=q;simp only[Int.toNat_natCast] at *;exact⟨hq,by omega⟩
 ·rintro ⟨h1,h2⟩;obtain⟨x,y⟩:=p;exact⟨zeb (x,y),⟨⟨_,h1,rfl⟩,by dsimp only at *; omega⟩,by simp⟩
theorem zIc {n:Nat} {l:List (Int×Int)} (h:(zb2 n (zbZ l)).map zeb=l):∀ p∈zbZ l,p.1+1<p.2∧p.2<n:=by
 intro p hp;rw[←h,zNN,zuU] at hp;exact⟨hp.2,hp.1.2.1⟩
end
section
theorem zCM {nodes:Nat} (hN2:nodes≤64) {x:StpI} (h1:1≤x.kind∧x.kind≤12) (h2:zlk nodes x (x.kind - 1).toNat):ziX x:=by
 obtain⟨k,nd,to,n,data⟩:=x;unfold ziX;dsimp only at h1 h2 ⊢;refine⟨h1,?_⟩
 rcases zGc h1 with rfl|rfl|rfl|rfl|rfl|rfl|rfl|rfl|rfl|rfl|rfl|rfl <;>
  simp only[zlk,Int.reduceSub,Int.toNat_zero,Int.reduceToNat] at h2<;>omega
theorem zP3 {nodes:Nat} (hN:0<nodes) (hN2:nodes≤64) {x:StpI} (h1:1≤x.kind∧x.kind≤12) :
  ((zas x).length≤(zcL (zas x) nodes 0).2∧(zcL (zas x) nodes 0).1.toI=x)↔zlk nodes x (x.kind - 1).toNat:=by
 constructor
 ·rintro ⟨_,h⟩;have:=(zNM hN (zas x) 0).2
  rw[h] at this;exact this
 ·intro h;obtain⟨h3,h4⟩:=zP2 hN hN2 h1 h [];rw[List.append_nil] at h3 h4;exact⟨by rw[h4];exact Nat.le_refl _,h3⟩
def zjI (l:List (Int×Int)):List (Int×Int):=l.filter fun p=>decide (p.2≠(p.1+1+9223372036854775808) % 18446744073709551616 - 9223372036854775808)
theorem zNO {l:List (Int×Int)} {a b:Nat} (h1:a+1<b) (h2:b<64):((a:Int),(b:Int))∈zjI l↔(a,b)∈zbZ l:=by
 unfold zjI zbZ;simp only[List.mem_filter,List.mem_map,decide_eq_true_eq];constructor
 ·rintro ⟨h3,_⟩;exact⟨_,⟨h3,by omega⟩,by simp⟩
 ·rintro ⟨⟨x,y⟩,⟨h3,h4,h5⟩,h6⟩;simp only[Prod.mk.injEq] at h6;dsimp only at h4 h5;have hx:x=a:=by omega
  have hy:y=b:=by omega
  subst hx hy;exact⟨h3,by omega⟩
theorem zId {n:Nat} (hn:n≤64) {l:List (Int×Int)} (h:(zb2 n (zbZ l)).map zeb=l):zjI l=(zbZ l).map zeb:=by
 have hv:∀ p∈l,0≤p.1∧p.1<p.2∧p.2<n:=fun p hp=>by
  rw[←h] at hp;obtain⟨q,hq,rfl⟩:=List.mem_map.1 hp;rw[zuU] at hq;simp only;omega
 unfold zjI zbZ;rw[List.map_map];clear h
 induction l with
 | nil=>rfl
 | cons p l ih=>
  have hp:=hv p (by simp);have ih':=ih fun q hq=>hv q (List.mem_cons_of_mem _ hq)
  obtain⟨x,y⟩:=p;dsimp only at hp;by_cases hc:x+1<y
  ·rw[List.filter_cons_of_pos (by simp;omega),ih',List.filter_cons_of_pos (by simp;omega),List.map_cons];congr 1;simp only[Function.comp,zeb,Prod.mk.injEq];omega
  ·rw[List.filter_cons_of_neg (by simp;omega),ih',List.filter_cons_of_neg (by simp;omega)]
def zA5 (s:zoj):List (Int×Nat×Nat):=[(s.held,1,256),(s.bytes.tdiv 8,1,256),(s.gaps,1,256),(s.disk.tdiv 256 - 1,1,256),(zaK s.seg 16,1,256),(zaK s.win 1,1,63),(zaK s.timer 1,1,8),(zaK s.tries 1,1,4),(zaK s.wait 1,1,8),(s.delay,1,4)]
def zIe (s:zoj):Prop:=0≤s.bytes∧s.bytes.tmod 8=0∧256≤s.disk∧s.disk.tmod 256=0
theorem znh (s:zoj):(zbN s).all zy=true↔zIe s∧(zA5 s).all zy=true:=by
 obtain⟨s0,s1,s2,s3,s4,s5,s6,s7,s8,s9⟩:=s;unfold zbN zA5 zIe;dsimp only
 have e8:zy (s1,8,256)=true↔0≤s1∧s1.tmod 8=0∧s1.tdiv 8<256:=by
  unfold zy;simp only[Bool.and_eq_true,decide_eq_true_eq];exact⟨fun h=>⟨h.1.1,h.1.2,h.2⟩,fun h=>⟨⟨h.1,h.2.1⟩,h.2.2⟩⟩
 have e9:zy (zaK s3 256,256,256)=true↔256≤s3∧s3.tmod 256=0∧s3.tdiv 256 - 1<256:=by
  rw[zRb];unfold zaK;split
  ·constructor<;>intro h<;>omega
  ·rw[Int.tmod_eq_emod_of_nonneg (by omega),Int.tdiv_eq_ediv_of_nonneg (by omega)];omega
 simp only[List.all_cons,List.all_nil,Bool.and_eq_true,Bool.and_true,zq2,e8,e9];constructor
 ·rintro ⟨h0,h1,h2,h3,h4⟩;refine⟨⟨h1.1,h1.2.1,h3.1,h3.2.1⟩,h0,⟨?_,h1.2.2⟩,h2,⟨?_,h3.2.2⟩,h4⟩
  ·rw[Int.tdiv_eq_ediv_of_nonneg h1.1];omega
  ·rw[Int.tdiv_eq_ediv_of_nonneg (by omega)];omega
 ·rintro ⟨⟨a1,a2,a3,a4⟩,h0,h1,h2,h3,h4⟩;exact⟨h0,⟨a1,a2,h1.2⟩,h2,⟨a3,a4,h3.2⟩,h4⟩
theorem zIf {s:zoj} (h:zIe s):(zA5 s).map zI=(zbN s).map zI:=by
 obtain⟨s0,s1,s2,s3,s4,s5,s6,s7,s8,s9⟩:=s;obtain⟨h1,h2,h3,h4⟩:=h;dsimp only at h1 h2 h3 h4;unfold zbN zA5;simp only[List.map_cons,List.map_nil]
 have e1:zI (s1.tdiv 8,1,256)=zI (s1,8,256):=by
  rw[zxw];unfold zI zh;rfl
 have e2:zI (s3.tdiv 256 - 1,1,256)=zI (zaK s3 256,256,256):=by
  rw[zxw,zRc _ (by unfold zaK;rw[if_neg (by omega)];omega)];congr 1;unfold zaK;rw[if_neg (by omega),Int.tdiv_eq_ediv_of_nonneg (by omega)];omega
 rw[e1,e2]
end
end Go.Proofs.YtpnhjkiligohnaaGreatDoor
namespace Go.Proofs.YtpnhjkiligohnaaGreatDoor
open Go Go.Vm
attribute [local irreducible] Brn Ob Grow CallsM inR zbf zaW Mem.row Mem.cells Mem.setCells Mem.upd Go.Vm.Own zbO zcz zcc zbE New SrcOk zap NewSl Mem.textAt Mem.mapAt Mem.iterAt zaV kfind Wr zch Elems
set_option maxRecDepth 10000
variable {M B B0:Mem}
@[reducible] def zA6 (x:StpI) (q:Option Addr) (c:Nat):List Value:=[.int .i64 x.kind,.int .i64 x.node,.int .i64 x.to,.int .i64 x.n,.slice q x.data.length c]
def zpk (x y:StpI):Bool:=decide (x.kind=y.kind)&&decide (x.node=y.node)&&decide (x.to=y.to)&&decide (x.n=y.n)&&decide (x.data=y.data)
theorem sameP_iff {x y:StpI}:zpk x y=true↔x=y:=by
 unfold zpk;simp only[Bool.and_eq_true,decide_eq_true_eq];exact⟨fun h=>StpI.ext' h.1.1.1.1 h.1.1.1.2 h.1.1.2 h.1.2 h.2,fun h=>by subst h;simp⟩
theorem zF1 {a b:Option Addr} {n m c d:Nat} {l l':List (Int×Int)} (ha:SrcOk M 2 a n (l.flatMap zdO)) (hb:SrcOk M 2 b m (l'.flatMap zdO)) (hn:n≤1048576) :
  CallsM Tryz.prog F.zdP [.slice a n c,.slice b m d] M fun u M'=>u = .bool (decide (l=l'))∧M=M':=by
 have hl:l.length=n:=SrcOk.flen (enc:=zdO) (s:=2) (fun _=>rfl) ha (by decide);have hl':l'.length=m:=SrcOk.flen (enc:=zdO) (s:=2) (fun _=>rfl) hb (by decide)
 refine zv3 (by simp) ?_;(conv=>whnf);refine brn (fun g=>?_) (fun g=>?_)
 ·have g':n≠m:=by simp at g;omega
  (conv=>whnf);exact⟨by rw[decide_eq_false (fun e=>g' (by rw[←hl,←hl',e]))],rfl⟩
 ·have g':n=m:=by simp at g;omega
  subst g';(conv=>whnf)
  refine zgk (σ:=Nat) [5] (fun y=>[(5,.int .i64 y)]) (fun _=>[]) (fun _=>M)
   (fun i=>i≤n∧l.take i=l'.take i) (fun y=>n - y) 0 ⟨by omega,by simp⟩ zS ?_
  rintro i ⟨hi,hni⟩;(conv=>whnf);refine brn (fun g=>?_) (fun g=>?_)
  ·have g':i<n:=by have:=Zd0 g;omega
   obtain⟨z,hz⟩:∃ z,l[i]? = some z:=⟨_,List.getElem?_eq_getElem (by omega)⟩
   obtain⟨y,hy⟩:∃ y,l'[i]? = some y:=⟨_,List.getElem?_eq_getElem (by omega)⟩
   obtain⟨b1,o1,rfl,hr1⟩:=SrcOk.fall (enc:=zdO) (s:=2) (fun _=>rfl) ha (by decide) hz;obtain⟨b2,o2,rfl,hr2⟩:=SrcOk.fall (enc:=zdO) (s:=2) (fun _=>rfl) hb (by decide) hy;(conv=>whnf);refine ob (by first|omega|(dsimp only;omega)) ?_;(conv=>whnf);refine on hr1 ?_;(conv=>whnf);refine ob (by first|omega|(dsimp only;omega)) ?_;(conv=>whnf);refine on hr2 ?_;obtain⟨z1,z2⟩:=z;obtain⟨y1,y2⟩:=y;(conv=>whnf);refine brn (fun e=>?_) (fun e=>?_)
   ·have e':¬(z1=y1∧z2=y2):=by simp at e;omega
    (conv=>whnf);refine⟨?_,rfl⟩;rw[decide_eq_false fun h=>?_];rw[h,hy] at hz;cases hz;exact e' ⟨rfl,rfl⟩
   ·have e':z1=y1∧z2=y2:=by simp at e;omega
    (conv=>whnf);refine obr (zx (by first|omega|(dsimp only;omega))) ?_;(conv=>whnf)
    refine⟨i+1,⟨by omega,?_⟩,by omega,zS⟩;rw[List.take_add_one,List.take_add_one,hz,hy,hni,e'.1,e'.2]
  ·have g':i=n:=by have:=Zd1 g;omega
   subst g';(conv=>whnf)
   rw[List.take_of_length_le (by omega),List.take_of_length_le (by omega)] at hni;exact⟨by rw[decide_eq_true hni],rfl⟩
theorem zIg {x y:StpI} {q r:Option Addr} {c d:Nat} (hx:SrcOk M 1 q x.data.length (x.data.map zi)) (hy:SrcOk M 1 r y.data.length (y.data.map zi)) :
  CallsM Tryz.prog F.zeg [.agg (zA6 x q c).toArray,.agg (zA6 y r d).toArray] M fun u M'=>u = .bool (zpk x y)∧M=M':=by
 refine zxM (by simp) ?_;(conv=>whnf);refine brn (fun e0=>?_) (fun e0=>?_)
 ·(conv=>whnf);refine brn (fun e1=>?_) (fun e1=>?_)
  ·(conv=>whnf);refine brn (fun e2=>?_) (fun e2=>?_)
   ·(conv=>whnf);refine brn (fun e3=>?_) (fun e3=>?_)
    ·(conv=>whnf);refine zCY hx ?_;(conv=>whnf);refine zCY hy ?_;(conv=>whnf)
     refine⟨?_,rfl⟩;congr 1;unfold zpk;rw[Zd0 e0,Zd0 e1,Zd0 e2,Zd0 e3];simp
    ·
     (conv=>whnf);exact⟨by unfold zpk;simp[Zd1 e3],rfl⟩
   ·
    (conv=>whnf);exact⟨by unfold zpk;simp[Zd1 e2],rfl⟩
  ·
   (conv=>whnf);exact⟨by unfold zpk;simp[Zd1 e1],rfl⟩
 ·
  (conv=>whnf);exact⟨by unfold zpk;simp[Zd1 e0],rfl⟩
def StpAt (M:Mem) (cs:List Value) (x:StpI):Prop:=∃ q c,cs=zA6 x q c∧SrcOk M 1 q x.data.length (x.data.map zi)
@[reducible] def setC (s:zoj):List Value:=[.int .i64 s.held,.int .i64 s.bytes,.int .i64 s.gaps,.int .i64 s.disk,.int .i64 s.seg,.int .i64 s.win,.int .i64 s.timer,.int .i64 s.tries,.int .i64 s.wait,.int .i64 s.delay]
@[reducible] def zuV (S:zm5) (ql:Option Addr) (nl cl:Nat) (qs:Option Addr) (ns cs:Nat):List Value:=[.int .i64 S.nodes,.slice ql nl cl,.int .i64 S.set.held,.int .i64 S.set.bytes,.int .i64 S.set.gaps,.int .i64 S.set.disk,.int .i64 S.set.seg,.int .i64 S.set.win,.int .i64 S.set.timer,.int .i64 S.set.tries,.int .i64 S.set.wait,.int .i64 S.set.delay,.slice qs ns cs]
def ScAt (M:Mem) (v:Value) (S:zm5):Prop:=∃ ql nl cl qs ns cs,v = .agg (zuV S ql nl cl qs ns cs).toArray∧SrcOk M 2 ql nl (S.links.flatMap zdO)∧nl≤1048576∧Elems M 5 qs ns (StpAt M) S.steps∧ns≤1048576
theorem StpAt.le {M M':Mem} {cs:List Value} {x:StpI} (h:StpAt M cs x) (hle:M.le M'):StpAt M' cs x:=by
 obtain⟨q,c,h1,h2⟩:=h;exact⟨q,c,h1,h2.le hle⟩
theorem ScAt.le {M M':Mem} {v:Value} {S:zm5} (h:ScAt M v S) (hle:M.le M'):ScAt M' v S:=by
 obtain⟨ql,nl,cl,qs,ns,cs,h1,h2,h3,h4,h5⟩:=h;exact⟨ql,nl,cl,qs,ns,cs,h1,h2.le hle,h3,h4.imp hle fun _ _ _ hx=>hx.le hle,h5⟩
end Go.Proofs.YtpnhjkiligohnaaGreatDoor
namespace Go.Proofs.YtpnhjkiligohnaaGreatDoor
open Go Go.Vm
attribute [local irreducible] Brn Ob Grow CallsM inR zbf zaW Mem.row Mem.cells Mem.setCells Mem.upd Go.Vm.Own zbO zcz zcc zbE New SrcOk zap NewSl Mem.textAt Mem.mapAt Mem.iterAt zaV kfind Wr zch Elems
set_option maxRecDepth 10000
open Br
theorem zdp:Reads T.int 1 fun (_:Mem) cs (n:Int)=>cs=[.int .i64 n]∧zCK .i64 n:=Reads.int (by kernel_rfl)
theorem zR9:Reads T.zF 1 fun (_:Mem) cs (n:Int)=>cs=[.int .u8 n]∧zCK .u8 n:=Reads.int (by kernel_rfl)
theorem zNP {α:Type} {M:Mem} {a:Option Addr} {n:Nat} {R:List Value→α→Prop} {l:List α} {β:Type} (f:β→Value) (h:Elems M 1 a n R l) (hR:∀ cs x,R cs x→∃ y,cs=[f y]):∃ l':List β,SrcOk M 1 a n (l'.map f):=by
 unfold Elems at h;obtain⟨css,h1,h2,h3,h4,h5⟩:=h
 have:∃ l':List β,css.flatten=l'.map f:=by
  clear h1 h4
  induction css generalizing l n with
  | nil=>exact⟨[],rfl⟩
  | cons cs r ih=>
   match l,h3 with
   | [],h3=>simp at h2 h3;omega
   | x::l,h3=>
    obtain⟨y,hy⟩:=hR cs x (h5 0 cs x rfl rfl);obtain⟨l',hl'⟩:=ih (n:=n - 1) (l:=l) (by simp at h2;omega) (by simp at h3;omega) (fun i c z hi hz=>h5 (i+1) c z (by simpa using hi) (by simpa using hz));exact⟨y::l',by simp[hy,hl']⟩
 obtain⟨l',e⟩:=this;exact⟨l',e▸h1⟩
theorem zSa {n:Int} (h:zCK .u8 n):Value.int .u8 n=zi (UInt8.ofNat n.toNat):=by
 have:=bounds_u8 h;simp only[zi];congr 1;simp;omega
theorem zP4:Reads T.zae 1 fun M cs (l:List UInt8)=>∃ a n c,cs=[.slice a n c]∧SrcOk M 1 a n (l.map zi)∧n≤1048576∧n≤c:=fun H enc W fuel cs d ps h hb=>by
 obtain⟨h1,l,a,n,c,h2,h3,h4⟩:=Reads.slice (t:=T.zae) (e:=T.zF) (by kernel_rfl) (by kernel_rfl) (by decide) zR9 H enc W fuel cs d ps h hb;obtain⟨l',h5⟩:=zNP zi h3 (fun cs x hx=>⟨_,hx.1.trans (by rw[zSa hx.2])⟩);exact⟨h1,l',a,n,c,h2,h5,h4⟩
end Go.Proofs.YtpnhjkiligohnaaGreatDoor
namespace Go.Proofs.YtpnhjkiligohnaaGreatDoor
open Go Go.Vm
attribute [local irreducible] Brn Ob Grow CallsM inR zbf zaW Mem.row Mem.cells Mem.setCells Mem.upd Go.Vm.Own zbO zcz zcc zbE New SrcOk zap NewSl Mem.textAt Mem.mapAt Mem.iterAt zaV kfind Wr zch Elems
set_option maxRecDepth 10000
section
variable {M B B0:Mem}
def LayAt (B M:Mem) (bo bu:Nat) (ok:Bool) (L:List UInt8):Prop:=
 B.le M∧B bo=none∧B bu=none∧M.has bo T.zar [.bool ok]∧∃ q c,M.has bu T.zae [.slice q L.length c]∧NewSl B T.zF 1 q L.length c (L.map zi) M
@[reducible] def zcV (bo bu:Nat):Value := .func (.func F.zdQ) #[] #[ptr bo,ptr bu]
@[reducible] def zai (n:Int):Prop := -9223372036854775808≤n∧n≤9223372036854775807
theorem zCN {n:Int} (hn:zai n) {b:Nat} (hb:0<b):zai (n.tdiv b):=by
 unfold zai at *;rcases Int.le_total 0 n with h|h
 ·rw[Int.tdiv_eq_ediv_of_nonneg h];have h1:n / (b:Int)≤n:=Int.ediv_le_self _ h
  have h2:0≤n / (b:Int):=Int.ediv_nonneg h (by omega);omega
 ·obtain⟨m,rfl⟩:∃ m,n = -m:=⟨-n,by omega⟩
  rw[Int.neg_tdiv,Int.tdiv_eq_ediv_of_nonneg (by omega)];have h1:m / (b:Int)≤m:=Int.ediv_le_self _ (by omega)
  have h2:0≤m / (b:Int):=Int.ediv_nonneg (by omega) (by omega);omega
theorem zpL (n:Int) (b m:Nat):Value.int .u8 (IntKind.u8.wrap (n.tdiv b))=zi (zI (n,b,m)):=by
 unfold zI zi;congr 1;simp only[IntKind.wrap,IntKind.signed,IntKind.bits];simp;omega
theorem zac {bo bu:Nat} {ok:Bool} {L:List UInt8} (h:LayAt B M bo bu ok L) {n:Int} (hn:zai n) {b m:Nat} (hb:0<b) (hb6:b≤256) (hL:L.length≤4194304) :
  CallsM Tryz.prog F.zdQ [.int .i64 n,.int .i64 b,.int .i64 m,ptr bo,ptr bu] M fun v M'=>v = .tuple #[]∧LayAt B M' bo bu (ok&&zy (n,b,m)) (L++[zI (n,b,m)]):=by
 obtain⟨hle,hbo,hbu,ho,q,c,hu,hN⟩:=h;have ht:=zCN hn hb
 refine zv4 (by simp) ?_;refine zR ?_;refine on (ho.c1 rfl) ?_;cases ok
 ·have hX:(false&&zy (n,b,m))=false:=rfl;refine zR ?_;refine on ho.cells ?_;(conv=>whnf);refine ob (by simp) ?_;obtain⟨M1,hM1⟩:∃ M1,M1=M.setCells bo T.zar [.bool false]:=⟨_,rfl⟩
  have hk1:Mem.keep (fun y=>y=bo) M M1:=fun y o hy hyo=>by rw[hM1];unfold Mem.setCells;rw[Mem.upd_ne _ _ hy];exact hyo
  have hb1:M1.has bo T.zar [.bool false]:=hM1▸Mem.has_setCells;have hu1:M1.has bu T.zae [.slice q L.length c]:=hk1 _ _ (fun e=>by subst e;exact absurd (ho.inj hu).1 (by decide)) hu
  have hN1:NewSl B T.zF 1 q L.length c (L.map zi) M1:=hN.keep hk1 (fun _ e=>e▸hbo) fun r hr e=>by
   obtain⟨_,cs,hc⟩:=hN.block hr;rw[e] at hc;exact absurd (hc.inj ho).1 (by decide)
  (conv=>whnf);erw [←hM1];refine on (hu1.c1 rfl) ?_;(conv=>whnf);refine ob (by omega) ?_;(conv=>whnf);refine obr (zx ht) ?_;refine zX ?_;(conv=>whnf)
  have hbt:Value.int .u8 (IntKind.u8.wrap (n.tdiv b))=zi (zI (n,b,m)):=zpL n b m;refine appK B _ hN1 (by omega) (by unfold maxLen;omega) (by intro u hu;simp at hu;subst hu;rfl) (fun q2 c2 M2 hN2 hk2=>?_)
  have hnb:∀ y E ds,M1.has y E ds→E≠T.zF→¬blk q y:=fun y E ds hy hE ⟨r,hr,e⟩=>by
   obtain⟨_,cs,hc⟩:=hN1.block hr;rw[e] at hc;exact hE (hc.inj hy).1.symm
  have hb2:M2.has bo T.zar [.bool false]:=hk2 _ _ (hnb _ _ _ hb1 (by decide)) hb1;have hu2:M2.has bu T.zae [.slice q L.length c]:=hk2 _ _ (hnb _ _ _ hu1 (by decide)) hu1
  rw[hbt,show L.map zi++[zi (zI (n,b,m))]=(L++[zI (n,b,m)]).map zi by simp] at hN2;refine zX ?_;refine on hu2.cells ?_;(conv=>whnf);refine ob (by simp) ?_;obtain⟨M3,hM3⟩:∃ M3,M3=M2.setCells bu T.zae [.slice q2 (L.length+1) c2]:=⟨_,rfl⟩
  have hk3:Mem.keep (fun y=>y=bu) M2 M3:=fun y o hy hyo=>by rw[hM3];unfold Mem.setCells;rw[Mem.upd_ne _ _ hy];exact hyo
  have hu3:M3.has bu T.zae [.slice q2 (L.length+1) c2]:=hM3▸Mem.has_setCells;have hb3:M3.has bo T.zar [.bool false]:=hk3 _ _ (fun e=>by subst e;exact absurd (hb2.inj hu2).1 (by decide)) hb2
  have hN3:NewSl B T.zF 1 q2 (L.length+1) c2 ((L++[zI (n,b,m)]).map zi) M3:=hN2.keep hk3 (fun _ e=>e▸hbu) fun r hr e=>by
   obtain⟨_,cs,hc⟩:=hN2.block hr;rw[e] at hc;exact absurd (hc.inj hu2).1 (by decide)
  (conv=>whnf);erw [←hM3];refine⟨rfl,hN3.le,hbo,hbu,by rw[hX];exact hb3,q2,c2,by simpa using hu3,by simpa using hN3⟩
 ·(conv=>whnf);refine brn (fun g1=>?_) (fun g1=>?_)
  ·have g1':=Zd0 g1;(conv=>whnf);refine ob (by omega) ?_;(conv=>whnf);refine brn (fun g2=>?_) (fun g2=>?_)
   ·have g2':=Zd0 g2;(conv=>whnf);refine ob (by omega) ?_;(conv=>whnf);refine obr (zx ht) ?_;have hX:(true&&zy (n,b,m))=decide (n.tdiv b<m):=by unfold zy;simp[g1',g2']
    refine zR ?_;refine on ho.cells ?_;(conv=>whnf);refine ob (by simp) ?_;obtain⟨M1,hM1⟩:∃ M1,M1=M.setCells bo T.zar [.bool (decide (n.tdiv b<m))]:=⟨_,rfl⟩
    have hk1:Mem.keep (fun y=>y=bo) M M1:=fun y o hy hyo=>by rw[hM1];unfold Mem.setCells;rw[Mem.upd_ne _ _ hy];exact hyo
    have hb1:M1.has bo T.zar [.bool (decide (n.tdiv b<m))]:=hM1▸Mem.has_setCells;have hu1:M1.has bu T.zae [.slice q L.length c]:=hk1 _ _ (fun e=>by subst e;exact absurd (ho.inj hu).1 (by decide)) hu
    have hN1:NewSl B T.zF 1 q L.length c (L.map zi) M1:=hN.keep hk1 (fun _ e=>e▸hbo) fun r hr e=>by
     obtain⟨_,cs,hc⟩:=hN.block hr;rw[e] at hc;exact absurd (hc.inj ho).1 (by decide)
    (conv=>whnf);erw [←hM1];refine on (hu1.c1 rfl) ?_;(conv=>whnf);refine ob (by omega) ?_;(conv=>whnf);refine obr (zx ht) ?_;refine zX ?_;(conv=>whnf)
    have hbt:Value.int .u8 (IntKind.u8.wrap (n.tdiv b))=zi (zI (n,b,m)):=zpL n b m;refine appK B _ hN1 (by omega) (by unfold maxLen;omega) (by intro u hu;simp at hu;subst hu;rfl) (fun q2 c2 M2 hN2 hk2=>?_)
    have hnb:∀ y E ds,M1.has y E ds→E≠T.zF→¬blk q y:=fun y E ds hy hE ⟨r,hr,e⟩=>by
     obtain⟨_,cs,hc⟩:=hN1.block hr;rw[e] at hc;exact hE (hc.inj hy).1.symm
    have hb2:M2.has bo T.zar [.bool (decide (n.tdiv b<m))]:=hk2 _ _ (hnb _ _ _ hb1 (by decide)) hb1;have hu2:M2.has bu T.zae [.slice q L.length c]:=hk2 _ _ (hnb _ _ _ hu1 (by decide)) hu1
    rw[hbt,show L.map zi++[zi (zI (n,b,m))]=(L++[zI (n,b,m)]).map zi by simp] at hN2;refine zX ?_;refine on hu2.cells ?_;(conv=>whnf);refine ob (by simp) ?_;obtain⟨M3,hM3⟩:∃ M3,M3=M2.setCells bu T.zae [.slice q2 (L.length+1) c2]:=⟨_,rfl⟩
    have hk3:Mem.keep (fun y=>y=bu) M2 M3:=fun y o hy hyo=>by rw[hM3];unfold Mem.setCells;rw[Mem.upd_ne _ _ hy];exact hyo
    have hu3:M3.has bu T.zae [.slice q2 (L.length+1) c2]:=hM3▸Mem.has_setCells;have hb3:M3.has bo T.zar [.bool (decide (n.tdiv b<m))]:=hk3 _ _ (fun e=>by subst e;exact absurd (hb2.inj hu2).1 (by decide)) hb2
    have hN3:NewSl B T.zF 1 q2 (L.length+1) c2 ((L++[zI (n,b,m)]).map zi) M3:=hN2.keep hk3 (fun _ e=>e▸hbu) fun r hr e=>by
     obtain⟨_,cs,hc⟩:=hN2.block hr;rw[e] at hc;exact absurd (hc.inj hu2).1 (by decide)
    (conv=>whnf);erw [←hM3];refine⟨rfl,hN3.le,hbo,hbu,by rw[hX];exact hb3,q2,c2,by simpa using hu3,by simpa using hN3⟩
   ·have hX:(true&&zy (n,b,m))=false:=by unfold zy;simp[Zd1 g2]
    refine zR ?_;refine on ho.cells ?_;(conv=>whnf);refine ob (by simp) ?_;obtain⟨M1,hM1⟩:∃ M1,M1=M.setCells bo T.zar [.bool false]:=⟨_,rfl⟩
    have hk1:Mem.keep (fun y=>y=bo) M M1:=fun y o hy hyo=>by rw[hM1];unfold Mem.setCells;rw[Mem.upd_ne _ _ hy];exact hyo
    have hb1:M1.has bo T.zar [.bool false]:=hM1▸Mem.has_setCells;have hu1:M1.has bu T.zae [.slice q L.length c]:=hk1 _ _ (fun e=>by subst e;exact absurd (ho.inj hu).1 (by decide)) hu
    have hN1:NewSl B T.zF 1 q L.length c (L.map zi) M1:=hN.keep hk1 (fun _ e=>e▸hbo) fun r hr e=>by
     obtain⟨_,cs,hc⟩:=hN.block hr;rw[e] at hc;exact absurd (hc.inj ho).1 (by decide)
    (conv=>whnf);erw [←hM1];refine on (hu1.c1 rfl) ?_;(conv=>whnf);refine ob (by omega) ?_;(conv=>whnf);refine obr (zx ht) ?_;refine zX ?_;(conv=>whnf)
    have hbt:Value.int .u8 (IntKind.u8.wrap (n.tdiv b))=zi (zI (n,b,m)):=zpL n b m;refine appK B _ hN1 (by omega) (by unfold maxLen;omega) (by intro u hu;simp at hu;subst hu;rfl) (fun q2 c2 M2 hN2 hk2=>?_)
    have hnb:∀ y E ds,M1.has y E ds→E≠T.zF→¬blk q y:=fun y E ds hy hE ⟨r,hr,e⟩=>by
     obtain⟨_,cs,hc⟩:=hN1.block hr;rw[e] at hc;exact hE (hc.inj hy).1.symm
    have hb2:M2.has bo T.zar [.bool false]:=hk2 _ _ (hnb _ _ _ hb1 (by decide)) hb1;have hu2:M2.has bu T.zae [.slice q L.length c]:=hk2 _ _ (hnb _ _ _ hu1 (by decide)) hu1
    rw[hbt,show L.map zi++[zi (zI (n,b,m))]=(L++[zI (n,b,m)]).map zi by simp] at hN2;refine zX ?_;refine on hu2.cells ?_;(conv=>whnf);refine ob (by simp) ?_;obtain⟨M3,hM3⟩:∃ M3,M3=M2.setCells bu T.zae [.slice q2 (L.length+1) c2]:=⟨_,rfl⟩
    have hk3:Mem.keep (fun y=>y=bu) M2 M3:=fun y o hy hyo=>by rw[hM3];unfold Mem.setCells;rw[Mem.upd_ne _ _ hy];exact hyo
    have hu3:M3.has bu T.zae [.slice q2 (L.length+1) c2]:=hM3▸Mem.has_setCells;have hb3:M3.has bo T.zar [.bool false]:=hk3 _ _ (fun e=>by subst e;exact absurd (hb2.inj hu2).1 (by decide)) hb2
    have hN3:NewSl B T.zF 1 q2 (L.length+1) c2 ((L++[zI (n,b,m)]).map zi) M3:=hN2.keep hk3 (fun _ e=>e▸hbu) fun r hr e=>by
     obtain⟨_,cs,hc⟩:=hN2.block hr;rw[e] at hc;exact absurd (hc.inj hu2).1 (by decide)
    (conv=>whnf);erw [←hM3];refine⟨rfl,hN3.le,hbo,hbu,by rw[hX];exact hb3,q2,c2,by simpa using hu3,by simpa using hN3⟩
  ·have hX:(true&&zy (n,b,m))=false:=by unfold zy;simp;intro h;exact absurd h (by simpa using g1)
   refine zR ?_;refine on ho.cells ?_;(conv=>whnf);refine ob (by simp) ?_;obtain⟨M1,hM1⟩:∃ M1,M1=M.setCells bo T.zar [.bool false]:=⟨_,rfl⟩
   have hk1:Mem.keep (fun y=>y=bo) M M1:=fun y o hy hyo=>by rw[hM1];unfold Mem.setCells;rw[Mem.upd_ne _ _ hy];exact hyo
   have hb1:M1.has bo T.zar [.bool false]:=hM1▸Mem.has_setCells;have hu1:M1.has bu T.zae [.slice q L.length c]:=hk1 _ _ (fun e=>by subst e;exact absurd (ho.inj hu).1 (by decide)) hu
   have hN1:NewSl B T.zF 1 q L.length c (L.map zi) M1:=hN.keep hk1 (fun _ e=>e▸hbo) fun r hr e=>by
    obtain⟨_,cs,hc⟩:=hN.block hr;rw[e] at hc;exact absurd (hc.inj ho).1 (by decide)
   (conv=>whnf);erw [←hM1];refine on (hu1.c1 rfl) ?_;(conv=>whnf);refine ob (by omega) ?_;(conv=>whnf);refine obr (zx ht) ?_;refine zX ?_;(conv=>whnf)
   have hbt:Value.int .u8 (IntKind.u8.wrap (n.tdiv b))=zi (zI (n,b,m)):=zpL n b m;refine appK B _ hN1 (by omega) (by unfold maxLen;omega) (by intro u hu;simp at hu;subst hu;rfl) (fun q2 c2 M2 hN2 hk2=>?_)
   have hnb:∀ y E ds,M1.has y E ds→E≠T.zF→¬blk q y:=fun y E ds hy hE ⟨r,hr,e⟩=>by
    obtain⟨_,cs,hc⟩:=hN1.block hr;rw[e] at hc;exact hE (hc.inj hy).1.symm
   have hb2:M2.has bo T.zar [.bool false]:=hk2 _ _ (hnb _ _ _ hb1 (by decide)) hb1;have hu2:M2.has bu T.zae [.slice q L.length c]:=hk2 _ _ (hnb _ _ _ hu1 (by decide)) hu1
   rw[hbt,show L.map zi++[zi (zI (n,b,m))]=(L++[zI (n,b,m)]).map zi by simp] at hN2;refine zX ?_;refine on hu2.cells ?_;(conv=>whnf);refine ob (by simp) ?_;obtain⟨M3,hM3⟩:∃ M3,M3=M2.setCells bu T.zae [.slice q2 (L.length+1) c2]:=⟨_,rfl⟩
   have hk3:Mem.keep (fun y=>y=bu) M2 M3:=fun y o hy hyo=>by rw[hM3];unfold Mem.setCells;rw[Mem.upd_ne _ _ hy];exact hyo
   have hu3:M3.has bu T.zae [.slice q2 (L.length+1) c2]:=hM3▸Mem.has_setCells;have hb3:M3.has bo T.zar [.bool false]:=hk3 _ _ (fun e=>by subst e;exact absurd (hb2.inj hu2).1 (by decide)) hb2
   have hN3:NewSl B T.zF 1 q2 (L.length+1) c2 ((L++[zI (n,b,m)]).map zi) M3:=hN2.keep hk3 (fun _ e=>e▸hbu) fun r hr e=>by
    obtain⟨_,cs,hc⟩:=hN2.block hr;rw[e] at hc;exact absurd (hc.inj hu2).1 (by decide)
   (conv=>whnf);erw [←hM3];refine⟨rfl,hN3.le,hbo,hbu,by rw[hX];exact hb3,q2,c2,by simpa using hu3,by simpa using hN3⟩
end
section
variable {M B B0:Mem}
theorem zo1 {n:Int} (hn:zai n) {b:Nat} (hb:b≤256):CallsM Tryz.prog F.zaj [.int .i64 n,.int .i64 b] M fun v M'=>v = .int .i64 (zaK n b)∧M=M':=by
 unfold zai at hn;refine zBH (by simp) ?_;(conv=>whnf);refine brn (fun g=>?_) (fun g=>?_)
 ·have g':n<(b:Int):=Zd0 g;(conv=>whnf)
  exact⟨by rw[zaK,if_pos g'],rfl⟩
 ·have g':¬n<(b:Int):=Zd1 g;(conv=>whnf);refine obr (zx (by first|omega|(dsimp only;omega))) ?_;(conv=>whnf)
  exact⟨by rw[zaK,if_neg g'],rfl⟩
theorem zha {n:Int} (hn:zai n) {b:Nat} (hb:b≤256):zai (zaK n b):=by
 unfold zai zaK at *; split<;>omega
def zMf (s:zoj):Prop:=zai s.held∧zai s.bytes∧zai s.gaps∧zai s.disk∧zai s.seg∧zai s.win∧zai s.timer∧zai s.tries∧zai s.wait∧zai s.delay
set_option maxRecDepth 100000 in
theorem zI5 {bo bu:Nat} {ok:Bool} {L:List UInt8} (h:LayAt B M bo bu ok L) {s:zoj} (hs:zMf s) (hL:L.length≤4194000) :
  CallsM Tryz.prog F.zgg [.agg (setC s).toArray,zcV bo bu] M fun v M'=>v = .tuple #[]∧LayAt B M' bo bu (ok&&(zbN s).all zy) (L++(zbN s).map zI):=by
 obtain⟨r0,r1,r2,r3,r4,r5,r6,r7,r8,r9⟩:=hs;refine zv5 (by simp) ?_;refine zR ?_;refine(zac h r0 (b:=1) (m:=256) (by decide) (by decide) (by omega)).mono ?_;rintro v M0 ⟨rfl,h0⟩;refine zR ?_;refine(zac h0 r1 (b:=8) (m:=256) (by decide) (by decide) (by simp;omega)).mono ?_;rintro v M1 ⟨rfl,h1⟩;refine zR ?_;refine(zac h1 r2 (b:=1) (m:=256) (by decide) (by decide) (by simp;omega)).mono ?_;rintro v M2 ⟨rfl,h2⟩;refine zR ?_;refine(zo1 r3 (b:=256) (by decide)).mono ?_;rintro v _ ⟨rfl,rfl⟩;refine zR ?_;refine(zac h2 (zha r3 (b:=256) (by decide)) (b:=256) (m:=256) (by decide) (by decide) (by simp;omega)).mono ?_;rintro v M3 ⟨rfl,h3⟩;refine zR ?_;refine(zo1 r4 (b:=16) (by decide)).mono ?_;rintro v _ ⟨rfl,rfl⟩;refine zR ?_;refine(zac h3 (zha r4 (b:=16) (by decide)) (b:=1) (m:=256) (by decide) (by decide) (by simp;omega)).mono ?_;rintro v M4 ⟨rfl,h4⟩;refine zR ?_;refine(zo1 r5 (b:=1) (by decide)).mono ?_;rintro v _ ⟨rfl,rfl⟩;refine zR ?_;refine(zac h4 (zha r5 (b:=1) (by decide)) (b:=1) (m:=63) (by decide) (by decide) (by simp;omega)).mono ?_;rintro v M5 ⟨rfl,h5⟩;refine zR ?_;refine(zo1 r6 (b:=1) (by decide)).mono ?_;rintro v _ ⟨rfl,rfl⟩;refine zR ?_;refine(zac h5 (zha r6 (b:=1) (by decide)) (b:=1) (m:=8) (by decide) (by decide) (by simp;omega)).mono ?_;rintro v M6 ⟨rfl,h6⟩;refine zR ?_;refine(zo1 r7 (b:=1) (by decide)).mono ?_;rintro v _ ⟨rfl,rfl⟩;refine zR ?_;refine(zac h6 (zha r7 (b:=1) (by decide)) (b:=1) (m:=4) (by decide) (by decide) (by simp;omega)).mono ?_;rintro v M7 ⟨rfl,h7⟩;refine zR ?_;refine(zo1 r8 (b:=1) (by decide)).mono ?_;rintro v _ ⟨rfl,rfl⟩;refine zR ?_;refine(zac h7 (zha r8 (b:=1) (by decide)) (b:=1) (m:=8) (by decide) (by decide) (by simp;omega)).mono ?_;rintro v M8 ⟨rfl,h8⟩;refine zR ?_;refine(zac h8 r9 (b:=1) (m:=4) (by decide) (by decide) (by simp;omega)).mono ?_;rintro v M9 ⟨rfl,h9⟩;refine zR ?_;(conv=>whnf)
 refine⟨rfl,?_⟩;unfold zbN;simp only[List.all_cons,List.all_nil,List.map_cons,List.map_nil,Bool.and_true,List.append_assoc,List.cons_append,List.nil_append,Bool.and_assoc] at h9 ⊢;exact h9
end
end Go.Proofs.YtpnhjkiligohnaaGreatDoor
