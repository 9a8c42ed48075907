/- Part of this proof;laid by program. -/
import Derived.Test.YtpnhjkiligohnaaGreatDoorJ34
import Derived.Test.YtpnhjkiligohnaaGreatDoorJ32
set_option linter.unusedVariables false
set_option linter.unusedSimpArgs false
namespace Go.Proofs.YtpnhjkiligohnaaGreatDoor
open Go Go.Vm
attribute [local irreducible] Brn Ob Grow CallsM inR zbd za9 Mem.row Mem.cells Mem.setCells Mem.upd Go.Vm.Own zbN zcZ zcB zbV New SrcOk zat NewSl Mem.textAt Mem.mapAt Mem.iterAt za8 kfind Wr NewEls Elems
set_option maxRecDepth 10000
section
variable {M B B0:Mem}
@[reducible] def zH1 (x:StpI) (q:Option Addr) (c:Nat):List Value:=[.int .i64 x.kind,.int .i64 x.node,.int .i64 x.to,.int .i64 x.n,.slice q x.data.length c]
def zsr (x y:StpI):Bool:=decide (x.kind=y.kind)&&decide (x.node=y.node)&&decide (x.to=y.to)&&decide (x.n=y.n)&&decide (x.data=y.data)
theorem sameP_iff {x y:StpI}:zsr x y=true↔x=y:=by
 unfold zsr;simp only[Bool.and_eq_true,decide_eq_true_eq];exact⟨fun h=>StpI.ext' h.1.1.1.1 h.1.1.1.2 h.1.1.2 h.1.2 h.2,fun h=>by subst h;simp⟩
theorem zFZ {a b:Option Addr} {n m c d:Nat} {l l':List (Int×Int)} (ha:SrcOk M 2 a n (l.flatMap zm5)) (hb:SrcOk M 2 b m (l'.flatMap zm5)) (hn:n≤1048576) :
  CallsM Tryz.prog F.zdO [.slice a n c,.slice b m d] M fun u M'=>u = .bool (decide (l=l'))∧M=M':=by
 have hl:l.length=n:=SrcOk.flen (enc:=zm5) (s:=2) (fun _=>rfl) ha (by decide);have hl':l'.length=m:=SrcOk.flen (enc:=zm5) (s:=2) (fun _=>rfl) hb (by decide)
 refine zv6 (by simp) ?_;(conv=>whnf);refine brn (fun g=>?_) (fun g=>?_)
 ·have g':n≠m:=by simp at g;omega
  (conv=>whnf);exact⟨by rw[decide_eq_false (fun e=>g' (by rw[←hl,←hl',e]))],rfl⟩
 ·have g':n=m:=by simp at g;omega
  subst g';(conv=>whnf)
  refine zcD (σ:=Nat) [5] (fun y=>[(5,.int .i64 y)]) (fun _=>[]) (fun _=>M)
   (fun i=>i≤n∧l.take i=l'.take i) (fun y=>n - y) 0 ⟨by omega,by simp⟩ zS ?_
  rintro i ⟨hi,hni⟩;(conv=>whnf);refine brn (fun g=>?_) (fun g=>?_)
  ·have g':i<n:=by have:=Zd0 g;omega
   obtain⟨z,hz⟩:∃ z,l[i]? = some z:=⟨_,List.getElem?_eq_getElem (by omega)⟩
   obtain⟨y,hy⟩:∃ y,l'[i]? = some y:=⟨_,List.getElem?_eq_getElem (by omega)⟩
   obtain⟨b1,o1,rfl,hr1⟩:=SrcOk.fall (enc:=zm5) (s:=2) (fun _=>rfl) ha (by decide) hz;obtain⟨b2,o2,rfl,hr2⟩:=SrcOk.fall (enc:=zm5) (s:=2) (fun _=>rfl) hb (by decide) hy;(conv=>whnf);refine ob (by first|omega|(dsimp only;omega)) ?_;(conv=>whnf);refine on hr1 ?_;(conv=>whnf);refine ob (by first|omega|(dsimp only;omega)) ?_;(conv=>whnf);refine on hr2 ?_;obtain⟨z1,z2⟩:=z;obtain⟨y1,y2⟩:=y;(conv=>whnf);refine brn (fun e=>?_) (fun e=>?_)
   ·have e':¬(z1=y1∧z2=y2):=by simp at e;omega
    (conv=>whnf);refine⟨?_,rfl⟩;rw[decide_eq_false fun h=>?_];rw[h,hy] at hz;cases hz;exact e' ⟨rfl,rfl⟩
   ·have e':z1=y1∧z2=y2:=by simp at e;omega
    (conv=>whnf);refine obr (zs (by first|omega|(dsimp only;omega))) ?_;(conv=>whnf)
    refine⟨i+1,⟨by omega,?_⟩,by omega,zS⟩;rw[List.take_add_one,List.take_add_one,hz,hy,hni,e'.1,e'.2]
  ·have g':i=n:=by have:=Zd1 g;omega
   subst g';(conv=>whnf)
   rw[List.take_of_length_le (by omega),List.take_of_length_le (by omega)] at hni;exact⟨by rw[decide_eq_true hni],rfl⟩
theorem zH2 {x y:StpI} {q r:Option Addr} {c d:Nat} (hx:SrcOk M 1 q x.data.length (x.data.map zy)) (hy:SrcOk M 1 r y.data.length (y.data.map zy)) :
  CallsM Tryz.prog F.zef [.agg (zH1 x q c).toArray,.agg (zH1 y r d).toArray] M fun u M'=>u = .bool (zsr x y)∧M=M':=by
 refine zxT (by simp) ?_;(conv=>whnf);refine brn (fun e0=>?_) (fun e0=>?_)
 ·(conv=>whnf);refine brn (fun e1=>?_) (fun e1=>?_)
  ·(conv=>whnf);refine brn (fun e2=>?_) (fun e2=>?_)
   ·(conv=>whnf);refine brn (fun e3=>?_) (fun e3=>?_)
    ·(conv=>whnf);refine zSA hx ?_;(conv=>whnf);refine zSA hy ?_;(conv=>whnf)
     refine⟨?_,rfl⟩;congr 1;unfold zsr;rw[Zd0 e0,Zd0 e1,Zd0 e2,Zd0 e3];simp
    ·
     (conv=>whnf);exact⟨by unfold zsr;simp[Zd1 e3],rfl⟩
   ·
    (conv=>whnf);exact⟨by unfold zsr;simp[Zd1 e2],rfl⟩
  ·
   (conv=>whnf);exact⟨by unfold zsr;simp[Zd1 e1],rfl⟩
 ·
  (conv=>whnf);exact⟨by unfold zsr;simp[Zd1 e0],rfl⟩
def StpAt (M:Mem) (cs:List Value) (x:StpI):Prop:=∃ q c,cs=zH1 x q c∧SrcOk M 1 q x.data.length (x.data.map zy)
@[reducible] def setC (s:SetI):List Value:=[.int .i64 s.held,.int .i64 s.bytes,.int .i64 s.gaps,.int .i64 s.disk,.int .i64 s.seg,.int .i64 s.win,.int .i64 s.timer,.int .i64 s.tries,.int .i64 s.wait,.int .i64 s.delay]
@[reducible] def zEs (S:zkx) (ql:Option Addr) (nl cl:Nat) (qs:Option Addr) (ns cs:Nat):List Value:=[.int .i64 S.nodes,.slice ql nl cl,.int .i64 S.set.held,.int .i64 S.set.bytes,.int .i64 S.set.gaps,.int .i64 S.set.disk,.int .i64 S.set.seg,.int .i64 S.set.win,.int .i64 S.set.timer,.int .i64 S.set.tries,.int .i64 S.set.wait,.int .i64 S.set.delay,.slice qs ns cs]
def ScAt (M:Mem) (v:Value) (S:zkx):Prop:=∃ ql nl cl qs ns cs,v = .agg (zEs S ql nl cl qs ns cs).toArray∧SrcOk M 2 ql nl (S.links.flatMap zm5)∧nl≤1048576∧Elems M 5 qs ns (StpAt M) S.steps∧ns≤1048576
theorem StpAt.le {M M':Mem} {cs:List Value} {x:StpI} (h:StpAt M cs x) (hle:M.le M'):StpAt M' cs x:=by
 obtain⟨q,c,h1,h2⟩:=h;exact⟨q,c,h1,h2.le hle⟩
theorem ScAt.le {M M':Mem} {v:Value} {S:zkx} (h:ScAt M v S) (hle:M.le M'):ScAt M' v S:=by
 obtain⟨ql,nl,cl,qs,ns,cs,h1,h2,h3,h4,h5⟩:=h;exact⟨ql,nl,cl,qs,ns,cs,h1,h2.le hle,h3,h4.imp hle fun _ _ _ hx=>hx.le hle,h5⟩
set_option maxRecDepth 100000 in
theorem zEt {v w:Value} {S:zkx} (hv:ScAt M v S) (hw:ScAt M w S):CallsM Tryz.prog F.zee [v,w] M fun u M'=>u = .bool true∧M=M':=by
 obtain⟨ql,nl,cl,qs,ns,cs,rfl,h2,h3,h4,h5⟩:=hv;obtain⟨ql',nl',cl',qs',ns',cs',rfl,h2',h3',h4',h5'⟩:=hw;have hns:ns=ns':=by rw[←h4.len,←h4'.len]
 subst hns;refine zER (by simp) ?_;refine zR ?_;(conv=>whnf);refine brn_f (by simp) ?_;refine zR ?_;refine(zFZ h2 h2' h3).mono ?_;rintro u _ ⟨rfl,rfl⟩;(conv=>whnf);refine brn_f (by simp) ?_;(conv=>whnf);refine brn_f (by simp) ?_;(conv=>whnf);refine brn_f (by simp) ?_;(conv=>whnf)
 refine zTK (σ:=Nat) [5] (fun y=>[(5,.int .i64 y)]) (fun i=>i≤ns) (fun y=>ns - y) 0 (by omega) zS ?_;rintro i hi;(conv=>whnf);refine brn (fun g=>?_) (fun g=>?_)
 ·have g':i<ns:=by have:=Zd0 g;omega
  obtain⟨hl1,b1,o1,c1,rfl, -, hr1, -, q1,e1,rfl,hd1⟩:=h4.at (by decide) g';obtain⟨hl2,b2,o2,c2,rfl, -, hr2, -, q2,e2,rfl,hd2⟩:=h4'.at (by decide) g';(conv=>whnf);refine ob (by first|omega|(dsimp only;omega)) ?_;(conv=>whnf);refine on hr1 ?_;(conv=>whnf);refine ob (by first|omega|(dsimp only;omega)) ?_;(conv=>whnf);refine on hr2 ?_;refine zR ?_;refine(zH2 hd1 hd2).mono ?_;rintro u _ ⟨rfl,rfl⟩;rw[sameP_iff.2 rfl];refine zR ?_;(conv=>whnf);refine obr (zs (by first|omega|(dsimp only;omega))) ?_;(conv=>whnf)
  refine⟨i+1,by omega,by omega,zS⟩
 ·have g':i=ns:=by have:=Zd1 g;omega
  (conv=>whnf);exact⟨rfl,rfl⟩
end
section
variable {M B B0:Mem}
theorem zR0 (l:List (Nat×Nat)):(l.map zd9).flatMap zm5=l.flatMap zoh:=by
 rw[List.flatMap_map]
theorem SrcOk.kept {M M':Mem} {s:Nat} {a:Option Addr} {n:Nat} {L:List Value} {X:Nat→Prop} (h:SrcOk M s a n L) (hk:Mem.keep X M M') (hX:∀ q,a=some q→¬X q.block):SrcOk M' s a n L:=
 (h.minus hX).le (Mem.keep_minus.1 hk)
theorem ztQ {S:ScrR} {M1 M2 M3:Mem} {ql qs:Option Addr} {cl cs:Nat} {X:Nat→Prop} (hN:NewSl M1 T.zci 2 ql S.links.length cl (S.links.flatMap zoh) M2) (hE:NewEls M1 T.zG 5 qs S.steps.length cs (StpN M1 M2) S.steps M2)
  (hk:Mem.keep X M2 M3) (hX:∀ b,X b→M1 b≠none) (h1:S.links.length≤1048576) (h2:S.steps.length≤1048576):ScAt M3 (.agg (zL2 S ql cl qs cs).toArray) S.toI:=by
 refine⟨ql,S.links.length,cl,qs,S.steps.length,cs,rfl,?_,h1,?_,h2⟩
 ·unfold ScrR.toI;dsimp only;rw[zR0];exact SrcOk.kept hN.src hk fun q hq hb=>hX _ hb (hN.block hq).1
 ·unfold NewEls at hE;unfold Elems;obtain⟨css,e1,e2,e3,e4,e5⟩:=hE;refine⟨css,SrcOk.kept e1.src hk fun q hq hb=>hX _ hb (e1.block hq).1,e2,by simp[ScrR.toI],e4,fun i c x hi hx=>?_⟩;unfold ScrR.toI at hx;dsimp only at hx;rw[List.getElem?_map,Option.map_eq_some_iff] at hx;obtain⟨y,hy,rfl⟩:=hx;obtain⟨q,d,h3,h4,h5⟩:=e5 i c y hi hy;exact⟨q,d,h3,SrcOk.kept h4 hk fun r hr hb=>hX _ hb (h5 r hr).1⟩
theorem zok (P:List UInt8):(zdN P).links.length≤1048576:=by
 have hn:=zab (P:=P) (v:=0) (m:=64) (by decide);have:=zxb (1+zm P 0 64) (ziI P (1+zm P 0 64) (zm P 1 16)) (1+zm P 0 64)
 have h2:(1+zm P 0 64)*(1+zm P 0 64)≤64*64:=Nat.mul_le_mul (by omega) (by omega);show (zcr _ _ _).length≤_
 omega
theorem zol (P:List UInt8):(zdN P).steps.length≤1048576:=by
 have:=(zs5 (nodes:=1+zm P 0 64) (by omega) P 256 (2+2*zm P 1 16+10)).1;show (zex _ _ _ _).length≤_
 omega
end
end Go.Proofs.YtpnhjkiligohnaaGreatDoor
namespace Go.Proofs.YtpnhjkiligohnaaGreatDoor
open Go Go.Vm
attribute [local irreducible] Brn Ob Grow CallsM inR zbd za9 Mem.row Mem.cells Mem.setCells Mem.upd Go.Vm.Own zbN zcZ zcB zbV New SrcOk zat NewSl Mem.textAt Mem.mapAt Mem.iterAt za8 kfind Wr NewEls Elems
set_option maxRecDepth 10000
open Br
theorem zdp:Reads T.int 1 fun (_:Mem) cs (n:Int)=>cs=[.int .i64 n]∧zCQ .i64 n:=Reads.int (by kernel_rfl)
theorem zR1:Reads T.zM 1 fun (_:Mem) cs (n:Int)=>cs=[.int .u8 n]∧zCQ .u8 n:=Reads.int (by kernel_rfl)
theorem zNF {α:Type} {M:Mem} {a:Option Addr} {n:Nat} {R:List Value→α→Prop} {l:List α} {β:Type} (f:β→Value) (h:Elems M 1 a n R l) (hR:∀ cs x,R cs x→∃ y,cs=[f y]):∃ l':List β,SrcOk M 1 a n (l'.map f):=by
 unfold Elems at h;obtain⟨css,h1,h2,h3,h4,h5⟩:=h
 have:∃ l':List β,css.flatten=l'.map f:=by
  clear h1 h4
  induction css generalizing l n with
  | nil=>exact⟨[],rfl⟩
  | cons cs r ih=>
   match l,h3 with
   | [],h3=>simp at h2 h3;omega
   | x::l,h3=>
    obtain⟨y,hy⟩:=hR cs x (h5 0 cs x rfl rfl);obtain⟨l',hl'⟩:=ih (n:=n - 1) (l:=l) (by simp at h2;omega) (by simp at h3;omega) (fun i c z hi hz=>h5 (i+1) c z (by simpa using hi) (by simpa using hz));exact⟨y::l',by simp[hy,hl']⟩
 obtain⟨l',e⟩:=this;exact⟨l',e▸h1⟩
theorem zR2 {n:Int} (h:zCQ .u8 n):Value.int .u8 n=zy (UInt8.ofNat n.toNat):=by
 have:=bounds_u8 h;simp only[zy];congr 1;simp;omega
theorem zH3:Reads T.zY 1 fun M cs (l:List UInt8)=>∃ a n c,cs=[.slice a n c]∧SrcOk M 1 a n (l.map zy)∧n≤1048576∧n≤c:=fun H enc W fuel cs d ps h hb=>by
 obtain⟨h1,l,a,n,c,h2,h3,h4⟩:=Reads.slice (t:=T.zY) (e:=T.zM) (by kernel_rfl) (by kernel_rfl) (by decide) zR1 H enc W fuel cs d ps h hb;obtain⟨l',h5⟩:=zNF zy h3 (fun cs x hx=>⟨_,hx.1.trans (by rw[zR2 hx.2])⟩);exact⟨h1,l',a,n,c,h2,h5,h4⟩
end Go.Proofs.YtpnhjkiligohnaaGreatDoor
namespace Go.Proofs.YtpnhjkiligohnaaGreatDoor
open Go Go.Vm
attribute [local irreducible] Brn Ob Grow CallsM inR zbd za9 Mem.row Mem.cells Mem.setCells Mem.upd Go.Vm.Own zbN zcZ zcB zbV New SrcOk zat NewSl Mem.textAt Mem.mapAt Mem.iterAt za8 kfind Wr NewEls Elems
set_option maxRecDepth 10000
section
variable {M B B0:Mem}
def LayAt (B M:Mem) (bo bu:Nat) (ok:Bool) (L:List UInt8):Prop:=
 B.le M∧B bo=none∧B bu=none∧M.has bo T.zar [.bool ok]∧∃ q c,M.has bu T.zY [.slice q L.length c]∧NewSl B T.zM 1 q L.length c (L.map zy) M
@[reducible] def zcY (bo bu:Nat):Value := .func (.func F.zdP) #[] #[ptr bo,ptr bu]
@[reducible] def zas (n:Int):Prop := -9223372036854775808≤n∧n≤9223372036854775807
theorem zTu {n:Int} (hn:zas n) {b:Nat} (hb:0<b):zas (n.tdiv b):=by
 unfold zas at *;rcases Int.le_total 0 n with h|h
 ·rw[Int.tdiv_eq_ediv_of_nonneg h];have h1:n / (b:Int)≤n:=Int.ediv_le_self _ h
  have h2:0≤n / (b:Int):=Int.ediv_nonneg h (by omega);omega
 ·obtain⟨m,rfl⟩:∃ m,n = -m:=⟨-n,by omega⟩
  rw[Int.neg_tdiv,Int.tdiv_eq_ediv_of_nonneg (by omega)];have h1:m / (b:Int)≤m:=Int.ediv_le_self _ (by omega)
  have h2:0≤m / (b:Int):=Int.ediv_nonneg (by omega) (by omega);omega
theorem zss (n:Int) (b m:Nat):Value.int .u8 (IntKind.u8.wrap (n.tdiv b))=zy (zP (n,b,m)):=by
 unfold zP zy;congr 1;simp only[IntKind.wrap,IntKind.signed,IntKind.bits];simp;omega
theorem zae {bo bu:Nat} {ok:Bool} {L:List UInt8} (h:LayAt B M bo bu ok L) {n:Int} (hn:zas n) {b m:Nat} (hb:0<b) (hb6:b≤256) (hL:L.length≤4194304) :
  CallsM Tryz.prog F.zdP [.int .i64 n,.int .i64 b,.int .i64 m,ptr bo,ptr bu] M fun v M'=>v = .tuple #[]∧LayAt B M' bo bu (ok&&zap (n,b,m)) (L++[zP (n,b,m)]):=by
 obtain⟨hle,hbo,hbu,ho,q,c,hu,hN⟩:=h;have ht:=zTu hn hb
 refine zv7 (by simp) ?_;refine zR ?_;refine on (ho.c1 rfl) ?_;cases ok
 ·have hX:(false&&zap (n,b,m))=false:=rfl;refine zR ?_;refine on ho.cells ?_;(conv=>whnf);refine ob (by simp) ?_;obtain⟨M1,hM1⟩:∃ M1,M1=M.setCells bo T.zar [.bool false]:=⟨_,rfl⟩
  have hk1:Mem.keep (fun y=>y=bo) M M1:=fun y o hy hyo=>by rw[hM1];unfold Mem.setCells;rw[Mem.upd_ne _ _ hy];exact hyo
  have hb1:M1.has bo T.zar [.bool false]:=hM1▸Mem.has_setCells;have hu1:M1.has bu T.zY [.slice q L.length c]:=hk1 _ _ (fun e=>by subst e;exact absurd (ho.inj hu).1 (by decide)) hu
  have hN1:NewSl B T.zM 1 q L.length c (L.map zy) M1:=hN.keep hk1 (fun _ e=>e▸hbo) fun r hr e=>by
   obtain⟨_,cs,hc⟩:=hN.block hr;rw[e] at hc;exact absurd (hc.inj ho).1 (by decide)
  (conv=>whnf);erw [←hM1];refine on (hu1.c1 rfl) ?_;(conv=>whnf);refine ob (by omega) ?_;(conv=>whnf);refine obr (zs ht) ?_;refine zX ?_;(conv=>whnf)
  have hbt:Value.int .u8 (IntKind.u8.wrap (n.tdiv b))=zy (zP (n,b,m)):=zss n b m;refine appK B _ hN1 (by omega) (by unfold maxLen;omega) (by intro u hu;simp at hu;subst hu;rfl) (fun q2 c2 M2 hN2 hk2=>?_)
  have hnb:∀ y E ds,M1.has y E ds→E≠T.zM→¬blk q y:=fun y E ds hy hE ⟨r,hr,e⟩=>by
   obtain⟨_,cs,hc⟩:=hN1.block hr;rw[e] at hc;exact hE (hc.inj hy).1.symm
  have hb2:M2.has bo T.zar [.bool false]:=hk2 _ _ (hnb _ _ _ hb1 (by decide)) hb1;have hu2:M2.has bu T.zY [.slice q L.length c]:=hk2 _ _ (hnb _ _ _ hu1 (by decide)) hu1
  rw[hbt,show L.map zy++[zy (zP (n,b,m))]=(L++[zP (n,b,m)]).map zy by simp] at hN2;refine zX ?_;refine on hu2.cells ?_;(conv=>whnf);refine ob (by simp) ?_;obtain⟨M3,hM3⟩:∃ M3,M3=M2.setCells bu T.zY [.slice q2 (L.length+1) c2]:=⟨_,rfl⟩
  have hk3:Mem.keep (fun y=>y=bu) M2 M3:=fun y o hy hyo=>by rw[hM3];unfold Mem.setCells;rw[Mem.upd_ne _ _ hy];exact hyo
  have hu3:M3.has bu T.zY [.slice q2 (L.length+1) c2]:=hM3▸Mem.has_setCells;have hb3:M3.has bo T.zar [.bool false]:=hk3 _ _ (fun e=>by subst e;exact absurd (hb2.inj hu2).1 (by decide)) hb2
  have hN3:NewSl B T.zM 1 q2 (L.length+1) c2 ((L++[zP (n,b,m)]).map zy) M3:=hN2.keep hk3 (fun _ e=>e▸hbu) fun r hr e=>by
   obtain⟨_,cs,hc⟩:=hN2.block hr;rw[e] at hc;exact absurd (hc.inj hu2).1 (by decide)
  (conv=>whnf);erw [←hM3];refine⟨rfl,hN3.le,hbo,hbu,by rw[hX];exact hb3,q2,c2,by simpa using hu3,by simpa using hN3⟩
 ·(conv=>whnf);refine brn (fun g1=>?_) (fun g1=>?_)
  ·have g1':=Zd0 g1;(conv=>whnf);refine ob (by omega) ?_;(conv=>whnf);refine brn (fun g2=>?_) (fun g2=>?_)
   ·have g2':=Zd0 g2;(conv=>whnf);refine ob (by omega) ?_;(conv=>whnf);refine obr (zs ht) ?_;have hX:(true&&zap (n,b,m))=decide (n.tdiv b<m):=by unfold zap;simp[g1',g2']
    refine zR ?_;refine on ho.cells ?_;(conv=>whnf);refine ob (by simp) ?_;obtain⟨M1,hM1⟩:∃ M1,M1=M.setCells bo T.zar [.bool (decide (n.tdiv b<m))]:=⟨_,rfl⟩
    have hk1:Mem.keep (fun y=>y=bo) M M1:=fun y o hy hyo=>by rw[hM1];unfold Mem.setCells;rw[Mem.upd_ne _ _ hy];exact hyo
    have hb1:M1.has bo T.zar [.bool (decide (n.tdiv b<m))]:=hM1▸Mem.has_setCells;have hu1:M1.has bu T.zY [.slice q L.length c]:=hk1 _ _ (fun e=>by subst e;exact absurd (ho.inj hu).1 (by decide)) hu
    have hN1:NewSl B T.zM 1 q L.length c (L.map zy) M1:=hN.keep hk1 (fun _ e=>e▸hbo) fun r hr e=>by
     obtain⟨_,cs,hc⟩:=hN.block hr;rw[e] at hc;exact absurd (hc.inj ho).1 (by decide)
    (conv=>whnf);erw [←hM1];refine on (hu1.c1 rfl) ?_;(conv=>whnf);refine ob (by omega) ?_;(conv=>whnf);refine obr (zs ht) ?_;refine zX ?_;(conv=>whnf)
    have hbt:Value.int .u8 (IntKind.u8.wrap (n.tdiv b))=zy (zP (n,b,m)):=zss n b m;refine appK B _ hN1 (by omega) (by unfold maxLen;omega) (by intro u hu;simp at hu;subst hu;rfl) (fun q2 c2 M2 hN2 hk2=>?_)
    have hnb:∀ y E ds,M1.has y E ds→E≠T.zM→¬blk q y:=fun y E ds hy hE ⟨r,hr,e⟩=>by
     obtain⟨_,cs,hc⟩:=hN1.block hr;rw[e] at hc;exact hE (hc.inj hy).1.symm
    have hb2:M2.has bo T.zar [.bool (decide (n.tdiv b<m))]:=hk2 _ _ (hnb _ _ _ hb1 (by decide)) hb1;have hu2:M2.has bu T.zY [.slice q L.length c]:=hk2 _ _ (hnb _ _ _ hu1 (by decide)) hu1
    rw[hbt,show L.map zy++[zy (zP (n,b,m))]=(L++[zP (n,b,m)]).map zy by simp] at hN2;refine zX ?_;refine on hu2.cells ?_;(conv=>whnf);refine ob (by simp) ?_;obtain⟨M3,hM3⟩:∃ M3,M3=M2.setCells bu T.zY [.slice q2 (L.length+1) c2]:=⟨_,rfl⟩
    have hk3:Mem.keep (fun y=>y=bu) M2 M3:=fun y o hy hyo=>by rw[hM3];unfold Mem.setCells;rw[Mem.upd_ne _ _ hy];exact hyo
    have hu3:M3.has bu T.zY [.slice q2 (L.length+1) c2]:=hM3▸Mem.has_setCells;have hb3:M3.has bo T.zar [.bool (decide (n.tdiv b<m))]:=hk3 _ _ (fun e=>by subst e;exact absurd (hb2.inj hu2).1 (by decide)) hb2
    have hN3:NewSl B T.zM 1 q2 (L.length+1) c2 ((L++[zP (n,b,m)]).map zy) M3:=hN2.keep hk3 (fun _ e=>e▸hbu) fun r hr e=>by
     obtain⟨_,cs,hc⟩:=hN2.block hr;rw[e] at hc;exact absurd (hc.inj hu2).1 (by decide)
    (conv=>whnf);erw [←hM3];refine⟨rfl,hN3.le,hbo,hbu,by rw[hX];exact hb3,q2,c2,by simpa using hu3,by simpa using hN3⟩
   ·have hX:(true&&zap (n,b,m))=false:=by unfold zap;simp[Zd1 g2]
    refine zR ?_;refine on ho.cells ?_;(conv=>whnf);refine ob (by simp) ?_;obtain⟨M1,hM1⟩:∃ M1,M1=M.setCells bo T.zar [.bool false]:=⟨_,rfl⟩
    have hk1:Mem.keep (fun y=>y=bo) M M1:=fun y o hy hyo=>by rw[hM1];unfold Mem.setCells;rw[Mem.upd_ne _ _ hy];exact hyo
    have hb1:M1.has bo T.zar [.bool false]:=hM1▸Mem.has_setCells;have hu1:M1.has bu T.zY [.slice q L.length c]:=hk1 _ _ (fun e=>by subst e;exact absurd (ho.inj hu).1 (by decide)) hu
    have hN1:NewSl B T.zM 1 q L.length c (L.map zy) M1:=hN.keep hk1 (fun _ e=>e▸hbo) fun r hr e=>by
     obtain⟨_,cs,hc⟩:=hN.block hr;rw[e] at hc;exact absurd (hc.inj ho).1 (by decide)
    (conv=>whnf);erw [←hM1];refine on (hu1.c1 rfl) ?_;(conv=>whnf);refine ob (by omega) ?_;(conv=>whnf);refine obr (zs ht) ?_;refine zX ?_;(conv=>whnf)
    have hbt:Value.int .u8 (IntKind.u8.wrap (n.tdiv b))=zy (zP (n,b,m)):=zss n b m;refine appK B _ hN1 (by omega) (by unfold maxLen;omega) (by intro u hu;simp at hu;subst hu;rfl) (fun q2 c2 M2 hN2 hk2=>?_)
    have hnb:∀ y E ds,M1.has y E ds→E≠T.zM→¬blk q y:=fun y E ds hy hE ⟨r,hr,e⟩=>by
     obtain⟨_,cs,hc⟩:=hN1.block hr;rw[e] at hc;exact hE (hc.inj hy).1.symm
    have hb2:M2.has bo T.zar [.bool false]:=hk2 _ _ (hnb _ _ _ hb1 (by decide)) hb1;have hu2:M2.has bu T.zY [.slice q L.length c]:=hk2 _ _ (hnb _ _ _ hu1 (by decide)) hu1
    rw[hbt,show L.map zy++[zy (zP (n,b,m))]=(L++[zP (n,b,m)]).map zy by simp] at hN2;refine zX ?_;refine on hu2.cells ?_;(conv=>whnf);refine ob (by simp) ?_;obtain⟨M3,hM3⟩:∃ M3,M3=M2.setCells bu T.zY [.slice q2 (L.length+1) c2]:=⟨_,rfl⟩
    have hk3:Mem.keep (fun y=>y=bu) M2 M3:=fun y o hy hyo=>by rw[hM3];unfold Mem.setCells;rw[Mem.upd_ne _ _ hy];exact hyo
    have hu3:M3.has bu T.zY [.slice q2 (L.length+1) c2]:=hM3▸Mem.has_setCells;have hb3:M3.has bo T.zar [.bool false]:=hk3 _ _ (fun e=>by subst e;exact absurd (hb2.inj hu2).1 (by decide)) hb2
    have hN3:NewSl B T.zM 1 q2 (L.length+1) c2 ((L++[zP (n,b,m)]).map zy) M3:=hN2.keep hk3 (fun _ e=>e▸hbu) fun r hr e=>by
     obtain⟨_,cs,hc⟩:=hN2.block hr;rw[e] at hc;exact absurd (hc.inj hu2).1 (by decide)
    (conv=>whnf);erw [←hM3];refine⟨rfl,hN3.le,hbo,hbu,by rw[hX];exact hb3,q2,c2,by simpa using hu3,by simpa using hN3⟩
  ·have hX:(true&&zap (n,b,m))=false:=by unfold zap;simp;intro h;exact absurd h (by simpa using g1)
   refine zR ?_;refine on ho.cells ?_;(conv=>whnf);refine ob (by simp) ?_;obtain⟨M1,hM1⟩:∃ M1,M1=M.setCells bo T.zar [.bool false]:=⟨_,rfl⟩
   have hk1:Mem.keep (fun y=>y=bo) M M1:=fun y o hy hyo=>by rw[hM1];unfold Mem.setCells;rw[Mem.upd_ne _ _ hy];exact hyo
   have hb1:M1.has bo T.zar [.bool false]:=hM1▸Mem.has_setCells;have hu1:M1.has bu T.zY [.slice q L.length c]:=hk1 _ _ (fun e=>by subst e;exact absurd (ho.inj hu).1 (by decide)) hu
   have hN1:NewSl B T.zM 1 q L.length c (L.map zy) M1:=hN.keep hk1 (fun _ e=>e▸hbo) fun r hr e=>by
    obtain⟨_,cs,hc⟩:=hN.block hr;rw[e] at hc;exact absurd (hc.inj ho).1 (by decide)
   (conv=>whnf);erw [←hM1];refine on (hu1.c1 rfl) ?_;(conv=>whnf);refine ob (by omega) ?_;(conv=>whnf);refine obr (zs ht) ?_;refine zX ?_;(conv=>whnf)
   have hbt:Value.int .u8 (IntKind.u8.wrap (n.tdiv b))=zy (zP (n,b,m)):=zss n b m;refine appK B _ hN1 (by omega) (by unfold maxLen;omega) (by intro u hu;simp at hu;subst hu;rfl) (fun q2 c2 M2 hN2 hk2=>?_)
   have hnb:∀ y E ds,M1.has y E ds→E≠T.zM→¬blk q y:=fun y E ds hy hE ⟨r,hr,e⟩=>by
    obtain⟨_,cs,hc⟩:=hN1.block hr;rw[e] at hc;exact hE (hc.inj hy).1.symm
   have hb2:M2.has bo T.zar [.bool false]:=hk2 _ _ (hnb _ _ _ hb1 (by decide)) hb1;have hu2:M2.has bu T.zY [.slice q L.length c]:=hk2 _ _ (hnb _ _ _ hu1 (by decide)) hu1
   rw[hbt,show L.map zy++[zy (zP (n,b,m))]=(L++[zP (n,b,m)]).map zy by simp] at hN2;refine zX ?_;refine on hu2.cells ?_;(conv=>whnf);refine ob (by simp) ?_;obtain⟨M3,hM3⟩:∃ M3,M3=M2.setCells bu T.zY [.slice q2 (L.length+1) c2]:=⟨_,rfl⟩
   have hk3:Mem.keep (fun y=>y=bu) M2 M3:=fun y o hy hyo=>by rw[hM3];unfold Mem.setCells;rw[Mem.upd_ne _ _ hy];exact hyo
   have hu3:M3.has bu T.zY [.slice q2 (L.length+1) c2]:=hM3▸Mem.has_setCells;have hb3:M3.has bo T.zar [.bool false]:=hk3 _ _ (fun e=>by subst e;exact absurd (hb2.inj hu2).1 (by decide)) hb2
   have hN3:NewSl B T.zM 1 q2 (L.length+1) c2 ((L++[zP (n,b,m)]).map zy) M3:=hN2.keep hk3 (fun _ e=>e▸hbu) fun r hr e=>by
    obtain⟨_,cs,hc⟩:=hN2.block hr;rw[e] at hc;exact absurd (hc.inj hu2).1 (by decide)
   (conv=>whnf);erw [←hM3];refine⟨rfl,hN3.le,hbo,hbu,by rw[hX];exact hb3,q2,c2,by simpa using hu3,by simpa using hN3⟩
end
section
variable {M B B0:Mem}
theorem zo2 {n:Int} (hn:zas n) {b:Nat} (hb:b≤256):CallsM Tryz.prog F.zaj [.int .i64 n,.int .i64 b] M fun v M'=>v = .int .i64 (zbf n b)∧M=M':=by
 unfold zas at hn;refine zBN (by simp) ?_;(conv=>whnf);refine brn (fun g=>?_) (fun g=>?_)
 ·have g':n<(b:Int):=Zd0 g;(conv=>whnf)
  exact⟨by rw[zbf,if_pos g'],rfl⟩
 ·have g':¬n<(b:Int):=Zd1 g;(conv=>whnf);refine obr (zs (by first|omega|(dsimp only;omega))) ?_;(conv=>whnf)
  exact⟨by rw[zbf,if_neg g'],rfl⟩
theorem zq8 {n:Int} (hn:zas n) {b:Nat} (hb:b≤256):zas (zbf n b):=by
 unfold zas zbf at *; split<;>omega
def zH4 (s:SetI):Prop:=zas s.held∧zas s.bytes∧zas s.gaps∧zas s.disk∧zas s.seg∧zas s.win∧zas s.timer∧zas s.tries∧zas s.wait∧zas s.delay
set_option maxRecDepth 100000 in
theorem zIR {bo bu:Nat} {ok:Bool} {L:List UInt8} (h:LayAt B M bo bu ok L) {s:SetI} (hs:zH4 s) (hL:L.length≤4194000) :
  CallsM Tryz.prog F.zgk [.agg (setC s).toArray,zcY bo bu] M fun v M'=>v = .tuple #[]∧LayAt B M' bo bu (ok&&(zfg s).all zap) (L++(zfg s).map zP):=by
 obtain⟨r0,r1,r2,r3,r4,r5,r6,r7,r8,r9⟩:=hs;refine zv8 (by simp) ?_;refine zR ?_;refine(zae h r0 (b:=1) (m:=256) (by decide) (by decide) (by omega)).mono ?_;rintro v M0 ⟨rfl,h0⟩;refine zR ?_;refine(zae h0 r1 (b:=8) (m:=256) (by decide) (by decide) (by simp;omega)).mono ?_;rintro v M1 ⟨rfl,h1⟩;refine zR ?_;refine(zae h1 r2 (b:=1) (m:=256) (by decide) (by decide) (by simp;omega)).mono ?_;rintro v M2 ⟨rfl,h2⟩;refine zR ?_;refine(zo2 r3 (b:=256) (by decide)).mono ?_;rintro v _ ⟨rfl,rfl⟩;refine zR ?_;refine(zae h2 (zq8 r3 (b:=256) (by decide)) (b:=256) (m:=256) (by decide) (by decide) (by simp;omega)).mono ?_;rintro v M3 ⟨rfl,h3⟩;refine zR ?_;refine(zo2 r4 (b:=16) (by decide)).mono ?_;rintro v _ ⟨rfl,rfl⟩;refine zR ?_;refine(zae h3 (zq8 r4 (b:=16) (by decide)) (b:=1) (m:=256) (by decide) (by decide) (by simp;omega)).mono ?_;rintro v M4 ⟨rfl,h4⟩;refine zR ?_;refine(zo2 r5 (b:=1) (by decide)).mono ?_;rintro v _ ⟨rfl,rfl⟩;refine zR ?_;refine(zae h4 (zq8 r5 (b:=1) (by decide)) (b:=1) (m:=63) (by decide) (by decide) (by simp;omega)).mono ?_;rintro v M5 ⟨rfl,h5⟩;refine zR ?_;refine(zo2 r6 (b:=1) (by decide)).mono ?_;rintro v _ ⟨rfl,rfl⟩;refine zR ?_;refine(zae h5 (zq8 r6 (b:=1) (by decide)) (b:=1) (m:=8) (by decide) (by decide) (by simp;omega)).mono ?_;rintro v M6 ⟨rfl,h6⟩;refine zR ?_;refine(zo2 r7 (b:=1) (by decide)).mono ?_;rintro v _ ⟨rfl,rfl⟩;refine zR ?_;refine(zae h6 (zq8 r7 (b:=1) (by decide)) (b:=1) (m:=4) (by decide) (by decide) (by simp;omega)).mono ?_;rintro v M7 ⟨rfl,h7⟩;refine zR ?_;refine(zo2 r8 (b:=1) (by decide)).mono ?_;rintro v _ ⟨rfl,rfl⟩;refine zR ?_;refine(zae h7 (zq8 r8 (b:=1) (by decide)) (b:=1) (m:=8) (by decide) (by decide) (by simp;omega)).mono ?_;rintro v M8 ⟨rfl,h8⟩;refine zR ?_;refine(zae h8 r9 (b:=1) (m:=4) (by decide) (by decide) (by simp;omega)).mono ?_;rintro v M9 ⟨rfl,h9⟩;refine zR ?_;(conv=>whnf)
 refine⟨rfl,?_⟩;unfold zfg;simp only[List.all_cons,List.all_nil,List.map_cons,List.map_nil,Bool.and_true,List.append_assoc,List.cons_append,List.nil_append,Bool.and_assoc] at h9 ⊢;exact h9
end
end Go.Proofs.YtpnhjkiligohnaaGreatDoor
namespace Go.Proofs.YtpnhjkiligohnaaGreatDoor
def zbr (n:Nat) (l:List (Int×Int)):List (Nat×Nat):=(l.filter fun p=>decide (0≤p.1∧p.1+1<p.2∧p.2<(n:Int))).map fun p=>(p.1.toNat,p.2.toNat)
theorem zNG {n:Nat} {l:List (Int×Int)} {a b:Nat} (h2:b<n):(a,b)∈zbr n l↔(a,b)∈zaz l:=by
 unfold zbr zaz;simp only[List.mem_filter,List.mem_map,decide_eq_true_eq];constructor
 ·rintro ⟨p,⟨h3,h4,h5,h6⟩,h7⟩;exact⟨p,⟨h3,h4,h5⟩,h7⟩
 ·rintro ⟨p,⟨h3,h4,h5⟩,h7⟩;refine⟨p,⟨h3,h4,h5,?_⟩,h7⟩;rw[Prod.mk.injEq] at h7;omega
theorem zIS (n:Nat) (l:List (Int×Int)):zcR n (zbr n l)=zcR n (zaz l):=zxe fun _ _ _ h=>zNG h
theorem zBc {n:Nat} {l:List (Int×Int)} (h:(zcR n (zaz l)).map zd9=l):zbr n l=zaz l:=by
 have hv:∀ p∈l,p.2<n:=fun p hp=>by
  rw[←h] at hp;obtain⟨q,hq,rfl⟩:=List.mem_map.1 hp;rw[zoj] at hq;simp only;omega
 unfold zbr zaz;congr 1;refine List.filter_congr fun p hp=>?_
 have:=hv p hp;rw[decide_eq_decide];omega
theorem zPU {n:Nat} {l:List (Int×Int)}:∀ p∈zbr n l,p.1+1<p.2∧p.2<n:=by
 intro p hp;unfold zbr at hp;obtain⟨q,hq,rfl⟩:=List.mem_map.1 hp;have:=(List.mem_filter.1 hq).2
 simp only[decide_eq_true_eq] at this;simp only;omega
theorem zEL (n:Nat) (l:List (Int×Int)):(zbr n l).length≤l.length:=by
 unfold zbr;rw[List.length_map];exact List.length_filter_le _ _
theorem zL6 (n:Nat) (l:List (Int×Int)) {i:Nat} {p:Int×Int} (hp:l[i]? = some p):zbr n (l.take (i+1))=zbr n (l.take i)++(if 0≤p.1∧p.1+1<p.2∧p.2<n then [(p.1.toNat,p.2.toNat)] else []):=by
 unfold zbr;rw[List.take_add_one,hp,List.filter_append,List.map_append];congr 1;by_cases h:0≤p.1∧p.1+1<p.2∧p.2<n
 ·simp[h]
 ·simp[h]
def zgT (n:Nat) (x:StpI):Bool:=decide (1≤x.kind∧x.kind≤12)&&(zag n x).all zap
def zgU (l:List (Nat×Nat)):List (Int×Nat×Nat):=l.flatMap fun p=>[((p.1:Int),1,64),((p.2:Int),1,64)]
def okW (S:zkx):Bool:=decide ((zcR S.nodes.toNat (zbr S.nodes.toNat S.links)).map zd9=S.links)&&(zap (((zbr S.nodes.toNat S.links).length:Nat),1,16)&&((zgU (zbr S.nodes.toNat S.links)).all zap&&((zfg S.set).all zap&&S.steps.all (zgT S.nodes.toNat))))
theorem goodS_iff {n:Nat} {x:StpI}:zgT n x=true↔(1≤x.kind∧x.kind≤12)∧zjK n x (x.kind - 1).toNat:=by
 unfold zgT zag;rw[Bool.and_eq_true,decide_eq_true_eq,List.all_cons,Bool.and_eq_true,zCT,zqZ];constructor
 ·rintro ⟨h1,_,h2⟩;exact⟨h1,h2⟩
 ·rintro ⟨h1,h2⟩;exact⟨h1,by omega,h2⟩
theorem zNH {n:Nat} {x:StpI} (h:zgT n x=true):(zag n x).map zP++x.data=ziJ x:=by
 obtain⟨h1,h2⟩:=goodS_iff.1 h;have h3:=zNA h1 h2
 unfold zL3 at h3;split at h3
 ·exact Option.some.inj h3
 ·cases h3
theorem zEu {S:zkx} (h1:1≤S.nodes∧S.nodes≤64) (h2:S.steps.length≤256):okW S=true↔zoi S:=by
 unfold okW zoi;simp only[Bool.and_eq_true,decide_eq_true_eq,zqZ,zIS,List.all_eq_true,goodS_iff];constructor
 ·rintro ⟨h3,h4,h5,h6,h7⟩;rw[zBc h3] at h4;exact⟨h1,h2,h3,by omega,h6,h7⟩
 ·rintro ⟨_,_,h3,h4,h6,h7⟩;rw[zBc h3];refine⟨h3,by omega,?_,h6,h7⟩;intro x hx;unfold zgU at hx;obtain⟨p,hp,hx⟩:=List.mem_flatMap.1 hx;have:=zHZ h3 p hp
  simp only[List.mem_cons,List.not_mem_nil,or_false] at hx;rcases hx with rfl|rfl<;>rw[zqZ]<;>omega
theorem zIT (l:List (Nat×Nat)):(zgU l).map zP=ze9 l:=by
 unfold zgU ze9;rw[List.map_flatMap];simp[zCS]
theorem zR3 {S:zkx} (h1:1≤S.nodes∧S.nodes≤64) (h2:S.steps.length≤256) (h:okW S=true) :
  [zP (S.nodes - 1,1,64)]++([zP (((zbr S.nodes.toNat S.links).length:Nat),1,16)]++((zgU (zbr S.nodes.toNat S.links)).map zP++((zfg S.set).map zP++S.steps.flatMap fun x=>(zag S.nodes.toNat x).map zP++x.data)))=zp2 S:=by
 have hE:=(zEu h1 h2).1 h;have h3:=hE.2.2.1
 rw[zBc h3,zIT,zCS,zCS];unfold zp2;simp only[List.cons_append,List.nil_append];congr 4;have hs:∀ x∈S.steps,zgT S.nodes.toNat x=true:=fun x hx=>goodS_iff.2 (hE.2.2.2.2.2 x hx)
 generalize S.steps=l at hs;clear h h3 hE h1 h2
 induction l with
 | nil=>rfl
 | cons x l ih=>
  rw[List.flatMap_cons,List.flatMap_cons,zNH (hs x (by simp)),ih fun y hy=>hs y (List.mem_cons_of_mem _ hy)]
theorem zNI (n:Nat) (x:StpI):(zag n x).length≤5:=by
 have z:=fun v=>show (zaW v).length≤1 by unfold zaW;split<;>simp
 have z1:=z x.node;have z2:=z x.to;have z3:=z x.n;have z4:=z x.data.length;have z5:=z (x.data.length - 1)
 unfold zag zaL;split<;>simp<;>omega
end Go.Proofs.YtpnhjkiligohnaaGreatDoor
