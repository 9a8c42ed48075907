/- Part. -/
import Derived.Test.YtlgbofpennelhaaGreatJ13
set_option linter.all false
set_option maxHeartbeats 0
namespace Go.Proofs.YtlgbofpennelhaaGreat
open Go Go.Vm
attribute [local irreducible] Brn Ob Grow CallsM inR zI zF Mem.row Mem.cells Mem.setCells Mem.upd Go.Vm.Own zZ zaj zam zO New SrcOk subA NewSl Mem.textAt Mem.mapAt Mem.iterAt zC zB Wr NewEls Elems
set_option maxRecDepth 10000
variable {M M0:Mem} {p b sp sb:Nat} {S:StR} {came:Int} {xs:HsT} {es:EsT}
def zwj (M0:Mem) (p b sp sb:Nat) (S:StR) (came:Int) (es:EsT) (k:Int) (i:IdT) (l:List UInt8) (v:Value) (M':Mem):Prop:=
 ∃ came' xs' es',v = .int .i64 (za2 S (zes S es) k i l.length)∧came'≤came+1 ∧
  FreshSt M0 M' p b sp sb (if za2 S (zes S es) k i l.length=0 then zai S k i l else S) came' xs' es' ∧
  (if za2 S (zes S es) k i l.length=0∧k=4 then zAm S.qg es es' i.o i.d i.e i.c else es'=es)
theorem zCo (hu:S.used.length=64) (came bytes v:Int):zd (zd (zaq S b came bytes sp) 4 [.int .i64 v]) 5 ((List.replicate 64 (0:Int)).map zi)=zaq { S with epoch:=v,used:=List.replicate 64 0 } b came bytes sp:=by
 have h5:zd (zaq S b came bytes sp) 4 [.int .i64 v]=zaq { S with epoch:=v } b came bytes sp:=by simp[zd,zaq]
 rw[h5];unfold zd
 have e:(zaq { S with epoch:=v } b came bytes sp).drop (5+((List.replicate 64 (0:Int)).map zi).length)=[.map (some b),.int .i64 came,.int .i64 bytes,ptr sp]:=by
  unfold zaq;rw[Yr,Yd3];simp[hu]
 rw[e];simp[zaq]
theorem zEj (hu:S.used.length=64) (came bytes v:Int):zd (zaq S b came bytes sp) 71 [.int .i64 v]=zaq S b came v sp:=by
 unfold zd;have h1:([.int .i64 S.self,.int .i64 S.qh,.int .i64 S.qb,.int .i64 S.qg,.int .i64 S.epoch]++S.used.map zi:List Value).length=69:=by simp[hu]
 unfold zaq;generalize ([.int .i64 S.self,.int .i64 S.qh,.int .i64 S.qb,.int .i64 S.qg,.int .i64 S.epoch]++S.used.map zi:List Value)=L at *;rw[List.take_append,Yd3];simp[h1,Yf,Yaf]
theorem zt6 {m:zcF}:∀ {l:List zcF},m∈l→m.p.length≤zn l
 | x::r,h=>by
  simp only[zn,Yq,Ybb];rcases Yp.1 h with rfl|h
  ·omega
  ·have:=zt6 h;simp only[zn] at this;omega
theorem FreshSt.to (h:FreshSt M0 M p b sp sb S came xs es) {M':Mem} (hle:M.le M'):FreshSt M0 M' p b sp sb S came xs es:=
 ⟨Yc h.le hle,h.at'.le hle,h.inv,h.invE,h.room,h.fresh⟩
theorem keepS {X:Nat→Prop} {M:Mem} {y:Nat} {E:TypeId} {l:List Value} (h:X y):Mem.keep X M (M.setCells y E l):=by
 unfold Mem.setCells;exact Yad _ _ h
theorem zAp (h:FreshSt M0 M p b sp sb S came xs es) (k:Int) (i:IdT) {a:Option Addr} {c:Nat} {l:List UInt8} (hl:SrcOk M 1 a l.length (l.map zc)) (hn:l.length≤1048576) (hcm:came≤4611686018427387904) :
  CallsM Tryz.prog 134 [ptr p,evV k i a l.length c] M (zwj M0 p b sp sb S came es k i l):=by
 refine zma oS ?_;refine zM (zwh h k i a l.length c hn) ?_;rintro v M1 ⟨rfl,hle1⟩;have h1:=h.to hle1
 have hA:=h1.at';have hI:=h1.inv
 refine brn (fun g=>?_) (fun g=>?_)
 ·have g1:¬za2 S (zes S es) k i l.length=0:=by simpa using g
  refine zR ?_;refine⟨came,xs,es,rfl,by omega,?_,?_⟩
  ·simp_all
  ·rw[if_neg (fun e=>g1 e.1)]
 have g1:za2 S (zes S es) k i l.length=0:=by simpa using g
 have hI2:=zAo hI g1;refine zR ?_;refine brn (fun g2=>?_) (fun g2=>?_)
 ·have g3:k=1:=Zd0 g2;subst g3;have he:=hI2.epoch
  have e:zai S 1 i l={ S with epoch:=S.epoch+1,used:=List.replicate 64 0 }:=by unfold zai;rw[if_pos rfl]
  rw[e] at he;dsimp only at he;refine zR ?_;refine on (hA.self.c1 rfl) ?_;refine obr (inR_i64 oM) ?_;refine on hA.self.cells ?_;refine ob (by simp) ?_;refine on Mem.cells_setCells ?_;have h5:zd (zaq S b came (zn S.l) sp) 4 [.int .i64 (S.epoch+1)]=zaq { S with epoch:=S.epoch+1 } b came (zn S.l) sp:=by simp[zd,zaq]
  refine ob (by
   dsimp only;show 69≤(zd (zaq S b came (zn S.l) sp) 4 [.int .i64 (S.epoch+1)]).length
   rw[h5,zia (S:={ S with epoch:=S.epoch+1 }) hI.ulen];omega) ?_
  have hb6:=zCo (S:=S) (b:=b) (sp:=sp) hI.ulen came (zn S.l) (S.epoch+1)
  have hs6:((M1.setCells p 258 (zd (zaq S b came (zn S.l) sp) 4 [.int .i64 (S.epoch+1)])).setCells p 258 (zd (zd (zaq S b came (zn S.l) sp) 4 [.int .i64 (S.epoch+1)]) 5 ((List.replicate 64 (0:Int)).map zi))).has p 258 (zaq (zai S 1 i l) b came (zn (zai S 1 i l).l) sp):=by
   rw[e,hb6];exact Yg
  have hk6:Mem.keep (fun y=>y=p) M1 ((M1.setCells p 258 (zd (zaq S b came (zn S.l) sp) 4 [.int .i64 (S.epoch+1)])).setCells p 258 (zd (zd (zaq S b came (zn S.l) sp) 4 [.int .i64 (S.epoch+1)]) 5 ((List.replicate 64 (0:Int)).map zi))):=fun y o hy ho=>by
   unfold Mem.setCells;rw[Yh _ _ hy,Yh _ _ hy];exact ho
  obtain⟨M6,hM6⟩:=oI (((M1.setCells p 258 (zd (zaq S b came (zn S.l) sp) 4 [.int .i64 (S.epoch+1)])).setCells p 258 (zd (zd (zaq S b came (zn S.l) sp) 4 [.int .i64 (S.epoch+1)]) 5 ((List.replicate 64 (0:Int)).map zi))));rw[←hM6] at hs6 hk6;have h6:=hA.head hk6 hs6 (by rfl) (by rfl) (Yae _)
  refine zR ?_;erw [←hM6];refine⟨came,xs,es,by rw[g1],by omega,?_,?_⟩
  ·rw[if_pos g1];exact⟨hk6.le h1.le fun y hy=>h1.fresh y (.inl hy),h6,hI2,h1.invE,by rw[e];exact h1.room,h1.fresh⟩
  ·rw[if_neg (by omega)]
 have k1:¬k=1:=Zd1 g2
 have hk:k=2∨k=3∨k=4:=by
  have g3:zba k i l.length=0:=by
   unfold za2 at g1;split at g1
   ·omega
   ·omega
  unfold zba at g3
  repeat' split at g3
  all_goals omega
 rcases hk with rfl|rfl|rfl
 ·obtain⟨m1,m2,m3,m4,m5,m6⟩:=zs7 g1;obtain⟨i1,i2,i3⟩:=zdf m1;have hid:=zkE i1
  have hqb:=hI.qb;have hqh:=hI.qh
  have hnone:ze xs i=none:=by
   rcases zhe hA i with ⟨hn,_⟩|⟨x,_,_,h0,_⟩
   ·omega
   ·simp_all
  refine zR ?_;refine on (hA.self.c1 (zfR hI.ulen ..)) ?_;refine on (hA.self.c1 (zt4 hI.ulen ..)) ?_;refine zR ?_;refine new (fun b9 hb9=>?_);replace hb9:M1 b9=none:=hb9;have hN1:NewSl M1 5 1 (some ⟨b9,0,none⟩) 0 0 (([]:List UInt8).map zc) _:=Ybc hb9 5 1 0 [] rfl
  obtain⟨M3,hM3⟩:=oI (M1.setCells b9 5 []);rw[←hM3] at hN1;erw [←hM3];refine zR ?_;refine zb2 ((hl.le hle1).le hN1.le) ?_;refine zb8 M1 _ hN1 (by omega) (by simp[maxLen];omega) (by simp[Value.oneCell',zc]) fun a5 c5 M5 hN5=>?_
  rw[Yap l.length] at hN5;rw[Yap l.length];have hA5:=hA.le hN5.le
  have hbp:b≠p:=(hA.map.nb hA.self).symm;obtain⟨x,hx⟩:∃ x:PX,x=⟨i,a5,c5,l,came⟩:=⟨_,rfl⟩
  have hap:zt xs i x=xs++[(i,x)]:=by unfold zt;rw[hnone]
  refine zT (hN5.le) ?_;refine hA5.map.put idK i x (fun pp ff hput=>?_);replace hput:=hput M5;rw[hap] at hput;have hk6:Mem.keep (fun y=>y=p∨y=b) M1 (M5.upd b (zdg pp ff (idA i) (pxV x))):=Yac (Ybt hN5.le) (Yad _ _ (.inr rfl))
  have hw6:Wr (M5.upd b (zdg pp ff (idA i) (pxV x))) 5 1 a5 l.length c5 (l.map zc):=hN5.wr.mono fun q o hq ho=>by
   rw[Yh _ _ (fun e=>?_)];exact ho;obtain⟨cs,hh⟩:=(hN5.block hq).2;rw[e] at hh;exact hA5.map.nb hh rfl
  have hs6:(M5.upd b (zdg pp ff (idA i) (pxV x))).has p 258 (zaq S b came (zn S.l) sp):=by
   unfold Mem.has;rw[Yh _ _ hbp.symm];exact hA5.self
  subst hx;obtain⟨M6,hM6⟩:∃ M6,M6=M5.upd b (zdg pp ff (idA i) (pxV ⟨i,a5,c5,l,came⟩)):=⟨_,rfl⟩
  rw[←hM6] at hput hk6 hw6 hs6;erw [←hM6];refine zR ?_;refine on (hs6.c1 (zt4 hI.ulen ..)) ?_;have hc0:=hA.came
  refine zV ?_;refine on hs6.cells ?_;refine ob (by dsimp only;rw[zia hI.ulen];omega) ?_;have hk7:Mem.keep (fun y=>y=p∨y=b) M1 (M6.setCells p 258 (zd (zaq S b came (zn S.l) sp) 70 [.int .i64 (came+1)])):=Yac hk6 (keepS (.inl rfl))
  have hp7:Mem.keep (fun y=>y=p) M6 (M6.setCells p 258 (zd (zaq S b came (zn S.l) sp) 70 [.int .i64 (came+1)])):=keepS rfl
  have hs7:(M6.setCells p 258 (zd (zaq S b came (zn S.l) sp) 70 [.int .i64 (came+1)])).has p 258 (zaq S b (came+1) (zn S.l) sp):=by
   rw[zuS hI.ulen];exact Yg
  obtain⟨M7,hM7⟩:=oI (M6.setCells p 258 (zd (zaq S b came (zn S.l) sp) 70 [.int .i64 (came+1)]));rw[←hM7] at hk7 hp7 hs7;erw [←hM7];refine zR ?_;refine on (hs7.c1 (zjq hI.ulen ..)) ?_;(conv=>whnf);refine obr (inR_i64 (by omega)) ?_;refine zR ?_;refine on hs7.cells ?_;refine ob (by dsimp only;rw[zia hI.ulen];omega) ?_;have hk8:Mem.keep (fun y=>y=p∨y=b) M1 (M7.setCells p 258 (zd (zaq S b (came+1) (zn S.l) sp) 71 [.int .i64 ((zn S.l:Int)+l.length)])):=Yac hk7 (keepS (.inl rfl))
  have hp8:Mem.keep (fun y=>y=p) M6 (M7.setCells p 258 (zd (zaq S b (came+1) (zn S.l) sp) 71 [.int .i64 ((zn S.l:Int)+l.length)])):=Yac hp7 (keepS rfl)
  have hs8:(M7.setCells p 258 (zd (zaq S b (came+1) (zn S.l) sp) 71 [.int .i64 ((zn S.l:Int)+l.length)])).has p 258 (zaq S b (came+1) ((zn S.l:Int)+l.length) sp):=by
   rw[zs9 hI.ulen];exact Yg
  obtain⟨M8,hM8⟩:=oI (M7.setCells p 258 (zd (zaq S b (came+1) (zn S.l) sp) 71 [.int .i64 ((zn S.l:Int)+l.length)]));rw[←hM8] at hk8 hp8 hs8;erw [←hM8];have hbytes:(zn (S.l++[⟨i,l⟩]):Int)=(zn S.l:Int)+l.length:=by rw[zng];simp[zn]
  have he:zai S 2 i l={ S with l:=S.l++[⟨i,l⟩],used:=if i.o=S.self∧i.e=S.epoch then S.used.set i.d.toNat (max (zdt S i.d) i.c) else S.used }:=by unfold zai;rw[if_neg oD,if_pos rfl]
  have fin:∀ M9,Mem.keep (fun y=>y=p∨y=b) M1 M9→Mem.keep (fun y=>y=p) M6 M9→M9.has p 258 (zaq (zai S 2 i l) b (came+1) ((zn S.l:Int)+l.length) sp)→zwj M0 p b sp sb S came es 2 i l (.int .i64 0) M9:=by
   intro M9 hk9 hp9 hs9
   have h9:StAt M9 p b sp sb (zai S 2 i l) (came+1) (xs++[(i,⟨i,a5,c5,l,came⟩)]) es:=by
    refine hA.turn hk9 ?_ (hput.mono fun o ho=>hp9 b o hbp ho) ?_ (by rfl) ?_ ?_ ?_ ⟨by omega,?_⟩
    ·simp_all
    ·intro q hq;rcases Yy.1 hq with hq|hq
     ·simp_all
     ·simp only[Y0] at hq;subst hq
      exact .inr (hw6.mono fun q o hq ho=>hp9 _ o (fun e=>by
       obtain⟨cs,hh⟩:=(hN5.block hq).2;have h1':=(hN5.block hq).1
       have h2':=hA.self;unfold Mem.has at h2';rw[e,h2'] at h1'
       cases h1') ho)
    ·rw[Yv,hA.held,he];rfl
    ·intro q hq;rcases Yy.1 hq with hq|hq
     ·exact hA.keys q hq
     ·simp_all
    ·rw[Yax];refine⟨hA.ord,by simp,fun a ha b hb=>?_⟩;simp only[Y0] at hb;subst hb;exact(hA.came.2 a ha).2
    ·grind
   refine⟨came+1,xs++[(i,⟨i,a5,c5,l,came⟩)],es,by rw[g1],by omega,?_,?_⟩
   ·rw[if_pos g1];refine⟨hk9.le h1.le fun y hy=>?_,h9,hI2,h1.invE,by rw[he];exact h1.room,fun y hy=>?_⟩
    ·rcases hy with hy|hy
     ·exact h1.fresh y (.inl hy)
     ·exact h1.fresh y (.inr (.inl hy))
    ·rcases hy with hy|hy|⟨q,hq,hy⟩|hy
     ·exact h1.fresh y (.inl hy)
     ·exact h1.fresh y (.inr (.inl hy))
     ·rcases Yy.1 hq with hq|hq
      ·exact h1.fresh y (.inr (.inr (.inl ⟨q,hq,hy⟩)))
      ·simp only[Y0] at hq;subst hq;obtain⟨a,ha,rfl⟩:=hy;have h3:=(hN5.block ha).1
       cases e0:M0 a.block with
       | none=>rfl
       | some o=>rw[h1.le _ o e0] at h3;cases h3
     ·exact h1.fresh y (.inr (.inr (.inr hy)))
   ·rw[if_neg (by omega)]
  refine zK hs8 ?_;refine brn (fun g2=>?_) (fun g2=>?_)
  rotate_left
  ·have g3:¬i.o=S.self:=Zd1 g2;have e1:zai S 2 i l={ S with l:=S.l++[⟨i,l⟩] }:=by rw[he,if_neg (fun h=>g3 h.1)]
   refine zR ?_;exact fin M8 hk8 hp8 (by simp_all)
  have g3:i.o=S.self:=Zd0 g2;refine zK hs8 ?_;refine brn (fun g4=>?_) (fun g4=>?_)
  rotate_left
  ·have g5:¬i.e=S.epoch:=Zd1 g4;have e1:zai S 2 i l={ S with l:=S.l++[⟨i,l⟩] }:=by rw[he,if_neg (fun h=>g5 h.2)]
   refine zR ?_;exact fin M8 hk8 hp8 (by simp_all)
  have g5:i.e=S.epoch:=Zd0 g4;have e1:zai S 2 i l={ S with l:=S.l++[⟨i,l⟩],used:=S.used.set i.d.toNat (max (zdt S i.d) i.c) }:=by rw[he,if_pos ⟨g3,g5⟩]
  obtain⟨d,hd⟩:∃ d:Nat,i.d=d:=⟨i.d.toNat,by omega⟩
  have hd64:d<64:=by omega
  have hk:M8.row p (0+0+5+i.d.toNat*1) 1=some [.int .i64 (zdt S i.d)]:=by
   have:=hs8.c1 (zt5 hI.ulen b (came+1) ((zn S.l:Int)+l.length) sp (d:=d) hd64);rw[hd,show 0+0+5+((d:Int)).toNat*1=5+d by omega];exact this
  refine zP ?_;refine on hk ?_;refine zV ?_;refine on hs8.cells ?_;refine ob (by dsimp only;rw[zia hI.ulen];omega) ?_
  have hput9:zd (zaq S b (came+1) ((zn S.l:Int)+l.length) sp) (0+0+5+i.d.toNat*1) [.int .i64 (max (zdt S i.d) i.c)]=zaq (zai S 2 i l) b (came+1) ((zn S.l:Int)+l.length) sp:=by
   have hdn:i.d.toNat=d:=by omega
   rw[e1,show 0+0+5+i.d.toNat*1=5+d by omega,zuT hI.ulen _ _ _ hd64,hdn]
  refine zR ?_;refine fin _ (Yac hk8 (keepS (.inl rfl))) (Yac hp8 (keepS rfl)) ?_;rw[←hput9];exact Yg
 ·refine zR ?_;refine on (hA.self.c1 (zjq hI.ulen ..)) ?_;refine on (hA.self.c1 (zfR hI.ulen ..)) ?_;refine hA.map.get idK i (fun hn=>?_) (fun x j hx=>?_)
  ·rcases zhe hA i with ⟨_,h0,_⟩|⟨x,hx,_⟩
   ·unfold za2 at g1;rw[h0] at g1
    repeat' split at g1
    all_goals first|exact absurd g1 ‹_› | (exfalso;simp_all)
   ·simp_all
  ·have hbx:x.p.length≤zn S.l:=by
    rw[←hA.held];exact zt6 (Yj.2 ⟨_,zG hx,rfl⟩:x.msg∈xs.map fun q=>q.2.msg)
   have hqb:=hI.qb;(conv=>whnf);refine obr (inR_i64 (by omega)) ?_;refine zR ?_;refine on hA.self.cells ?_;refine ob (by dsimp only;rw[zia hI.ulen];omega) ?_;have hw:=zEj (S:=S) (b:=b) (sp:=sp) hI.ulen came (zn S.l) ((zn S.l:Int) - x.p.length)
   have hs6:(M1.setCells p 258 (zd (zaq S b came (zn S.l) sp) 71 [.int .i64 ((zn S.l:Int) - x.p.length)])).has p 258 (zaq S b came ((zn S.l:Int) - x.p.length) sp):=by
    rw[←hw];exact Yg
   have hk6:Mem.keep (fun y=>y=p) M1 (M1.setCells p 258 (zd (zaq S b came (zn S.l) sp) 71 [.int .i64 ((zn S.l:Int) - x.p.length)])):=fun y o hy ho=>by
    unfold Mem.setCells;rw[Yh _ _ hy];exact ho
   obtain⟨M6,hM6⟩:=oI (M1.setCells p 258 (zd (zaq S b came (zn S.l) sp) 71 [.int .i64 ((zn S.l:Int) - x.p.length)]));rw[←hM6] at hs6 hk6;refine zR ?_;erw [←hM6];refine on (hs6.c1 (zfR hI.ulen ..)) ?_;refine zR ?_;have hbp:b≠p:=(hA.map.nb hA.self).symm
   have hm6:MapAt idA pxV M6 b xs:=hA.map.mono fun o ho=>hk6 b o hbp ho
   refine hm6.del idK i (fun pp ff hdel=>?_);replace hdel:=hdel M6;have hk7:Mem.keep (fun y=>y=p∨y=b) M1 (M6.upd b (zdq pp ff)):=Yac (Mem.keep_mono hk6 fun y hy => .inl hy) (Yad _ _ (.inr rfl))
   have hs7:(M6.upd b (zdq pp ff)).has p 258 (zaq S b came ((zn S.l:Int) - x.p.length) sp):=by
    unfold Mem.has;rw[Yh _ _ hbp.symm];exact hs6
   obtain⟨M7,hM7⟩:=oI (M6.upd b (zdq pp ff));rw[←hM7] at hdel hk7 hs7;erw [←hM7];refine zR ?_;have hmem:=zG hx
   have hxi:x.id=i:=hA.keys _ hmem;have hml:x.msg∈S.l:=by rw[←hA.held];exact Yj.2 ⟨_,hmem,rfl⟩
   have e:zai S 3 i l={ S with l:=S.l.filter fun m=>decide (m.id≠i) }:=by unfold zai;rw[if_neg oD,if_neg oD,if_pos rfl]
   have hbd:=zrY hI.nodup hml hxi
   have hheld:(zaO xs i).map (fun q=>q.2.msg)=S.l.filter fun m=>decide (m.id≠i):=by
    rw[←hA.held];unfold zaO;rw[Ydn];congr 1;apply List.filter_congr;intro q hq;have:=hA.keys q hq
    simp[this]
   have hsub:∀ q∈zaO xs i,q∈xs:=fun q hq=>(Ya3.1 hq).1
   have h9:StAt M7 p b sp sb (zai S 3 i l) came (zaO xs i) es:=by
    refine hA.turn hk7 ?_ hdel (fun q hq => .inl (hsub q hq)) (by rfl) (by simp_all) (fun q hq=>hA.keys q (hsub q hq)) (hA.ord.sublist Ycl) ⟨hA.came.1,fun q hq=>hA.came.2 q (hsub q hq)⟩;have:((zn S.l:Int) - x.p.length)=(zn (zai S 3 i l).l:Int):=by rw[e];dsimp only at hbd ⊢; omega
    rw[e] at this ⊢;rw[←this];exact hs7
   refine⟨came,zaO xs i,es,by rw[g1],by omega,?_,?_⟩
   ·rw[if_pos g1];refine⟨hk7.le h1.le fun y hy=>?_,h9,hI2,h1.invE,by rw[e];exact h1.room,fun y hy=>?_⟩
    ·rcases hy with hy|hy
     ·exact h1.fresh y (.inl hy)
     ·exact h1.fresh y (.inr (.inl hy))
    ·rcases hy with hy|hy|⟨q,hq,hy⟩|hy
     ·exact h1.fresh y (.inl hy)
     ·exact h1.fresh y (.inr (.inl hy))
     ·exact h1.fresh y (.inr (.inr (.inl ⟨q,hsub q hq,hy⟩)))
     ·exact h1.fresh y (.inr (.inr (.inr hy)))
   ·rw[if_neg (by omega)]
 ·refine zR ?_;have hB:FreshS (M1.minus (setB sp sb es)) M1 sp sb S.qg es:=⟨Yab _ _,hA.set,h1.invE,h1.room,fun _ hy=>Yaq hy⟩
  have hMB:M0.le (M1.minus (setB sp sb es)):=Ybs h1.le fun y hy=>h1.fresh y (.inr (.inr (.inr hy)))
  refine on (hA.self.c1 (zj0 hI.ulen ..)) ?_;refine zM (zKO hB i.o i.d i.e i.c) ?_;rintro v M2 ⟨es2,rfl,h2,hst⟩;refine zR ?_;have e:zai S 4 i l=S:=by unfold zai;rw[if_neg oD,if_neg oD,if_neg oD]
  refine⟨came,xs,es2,by rw[g1],by omega,?_,?_⟩
  ·rw[if_pos g1,e];refine⟨Yc hMB h2.le,hA.turned h2.le h2.at',hI,h2.inv,h2.room,fun y hy=>?_⟩;rcases hy with hy|hy|hy|hy
   ·exact h1.fresh y (.inl hy)
   ·exact h1.fresh y (.inr (.inl hy))
   ·exact h1.fresh y (.inr (.inr (.inl hy)))
   ·have h3:=h2.fresh y hy;cases e0:M0 y with
    | none=>rfl
    | some o=>rw[hMB y o e0] at h3;cases h3
  ·simp_all
end Go.Proofs.YtlgbofpennelhaaGreat
namespace Go.Proofs.YtlgbofpennelhaaGreat
open Go Go.Vm
def zhB:Nat→List Int→List (Int×Int)
 | _,[]=>[]
 | d,n::r=>if 0<n then ((d:Int),n)::zhB (d+1) r else zhB (d+1) r
@[reducible] def zdu (u:List Int):List (Int×Int):=zhB 0 u
def zFV:List (Int×Int)→Int→Int
 | [],_=>0
 | x::r,d=>if x.1=d then x.2 else zFV r d
theorem zon:∀ (u:List Int) (k:Nat),(zhB k u).length≤u.length
 | [],_=>by simp[zhB]
 | n::r,k=>by
  have:=zon r (k+1);unfold zhB;split<;>simp<;>omega
end Go.Proofs.YtlgbofpennelhaaGreat
namespace Go.Proofs.YtlgbofpennelhaaGreat
open Go Go.Vm
attribute [local irreducible] Brn Ob Grow CallsM inR zI zF Mem.row Mem.cells Mem.setCells Mem.upd Go.Vm.Own zZ zaj zam zO New SrcOk subA NewSl Mem.textAt Mem.mapAt Mem.iterAt zC zB Wr NewEls Elems
set_option maxRecDepth 10000
section
variable {M:Mem}
structure MX where
 id:IdT
 a:Option Addr
 c:Nat
 p:List UInt8
@[reducible] def MX.msg (x:MX):zcF:=⟨x.id,x.p⟩
@[reducible] def zAq (x:MX):List Value:=[.int .i64 x.id.o,.int .i64 x.id.d,.int .i64 x.id.e,.int .i64 x.id.c,.slice x.a x.p.length x.c]
theorem zEk (x:MX):(zAq x).length=5:=rfl
@[reducible] def zta (n:Int×Int):List Value:=[.int .i64 n.1,.int .i64 n.2]
structure zAr (M:Mem) (a:Option Addr) (n:Nat) (ms:List MX):Prop where
 row:SrcOk M 5 a n (ms.flatMap zAq)
 data:∀ m∈ms,SrcOk M 1 m.a m.p.length (m.p.map zc)
structure ztb where
 ua:Option Addr
 un:Nat
 uc:Nat
 la:Option Addr
 ln:Nat
 lc:Nat
 ka:Option Addr
 kn:Nat
 kc:Nat
structure zJF (M:Mem) (S:StR) (L:List K) (D:ztb) (ms:List MX):Prop where
 used:SrcOk M 2 D.ua D.un ((zdu S.used).flatMap zta)
 row:zAr M D.la D.ln ms
 msgs:ms.map MX.msg=S.l
 keys:SrcOk M 3 D.ka D.kn (L.flatMap zKM)
 few:D.kn≤4000000
variable {S:StR} {L:List K} {D:ztb} {ms:List MX}
end
section
variable {M M0:Mem} {p b sp sb:Nat} {S:StR} {came:Int} {xs:HsT} {es:EsT}
theorem StAt.some (h:StAt M p b sp sb S came xs es) (hE:InvE es) (hg:(zaD es:Int)≤S.qg∧S.qg≤256) {y:Nat} (hy:stB p b sp sb xs es y):M y≠none:=by
 rcases hy with rfl|rfl|⟨q,hq,hy⟩|hy
 ·have:=h.self;unfold Mem.has at this;rw[this];simp
 ·obtain⟨l,c,hh,_⟩:=h.map;rw[hh];simp
 ·obtain⟨cs,hc⟩:=h.dhas hq hy;unfold Mem.has at hc;rw[hc];simp
 ·have hF:FreshS (M.minus (setB sp sb es)) M sp sb S.qg es:=⟨Yab _ _,h.set,hE,hg,fun _ hy=>Yaq hy⟩
  exact hF.some hy
theorem FreshSt.some (h:FreshSt M0 M p b sp sb S came xs es) {y:Nat} (hy:stB p b sp sb xs es y):M y≠none:=h.at'.some h.invE h.room hy
theorem FreshSt.base (h:FreshSt M0 M p b sp sb S came xs es):FreshSt (M.minus (stB p b sp sb xs es)) M p b sp sb S came xs es∧M0.le (M.minus (stB p b sp sb xs es)):=
 ⟨⟨Yab _ _,h.at',h.inv,h.invE,h.room,fun _ hy=>Yaq hy⟩,Ybs h.le h.fresh⟩
structure EvX where
 kind:Int
 id:IdT
 p:List UInt8
end
end Go.Proofs.YtlgbofpennelhaaGreat
namespace Go.Proofs.YtlgbofpennelhaaGreat
open Go Go.Vm
attribute [local irreducible] Brn Ob Grow CallsM inR zI Mem.row Mem.cells Mem.setCells Mem.upd Go.Vm.Own zZ zaj zam zO New SrcOk subA NewSl
def zp (x:Int):UInt8:=UInt8.ofNat (x % 256).toNat
theorem ze4 (x:Int):Value.int .u8 (IntKind.u8.wrap x)=zc (zp x):=by
 have h:IntKind.u8.wrap x=x % 256:=by simp[IntKind.wrap,IntKind.signed,IntKind.bits]
 rw[h];simp only[zc,zp];congr 1;have:0≤x % 256∧x % 256<256:=by omega
 simp;omega
def two (x:Int):List UInt8:=[zp (x / 256),zp x]
theorem zCp (x:Int):be 2 x=two x:=by
 simp[be,two,zbq,zp,Yde]
def zX (o d e c:Int):List UInt8:=[zp o,zp d]++two e++two c
set_option maxRecDepth 10000 in
theorem zmB (o d e c:Int) (M:Mem):CallsM Tryz.prog 181 [.agg #[.int .i64 o,.int .i64 d,.int .i64 e,.int .i64 c]] M fun v M'=>(idErr o d e c≠0∧v = .tuple #[.slice none 0 0,.int .i64 (idErr o d e c)]∧M=M') ∨
   (idErr o d e c=0∧∃ a' c',v = .tuple #[.slice a' 6 c',.int .i64 0]∧NewSl M 5 1 a' 6 c' ((zX o d e c).map zc) M'):=by
 refine zvH oS ?_;refine(zfc _ _ _ _ _).mono ?_;rintro v M' ⟨rfl,rfl⟩;refine brn (fun h=>?_) (fun h=>?_)
 ·(conv=>whnf);exact .inl ⟨by simp_all,rfl,rfl⟩
 ·have hid:idErr o d e c=0:=by simpa using h
  obtain⟨ho,hd,he,hc,hne⟩:(0≤o∧o≤63)∧(0≤d∧d≤63)∧(1≤e∧e≤65535)∧(1≤c∧c≤65535)∧o≠d:=by
   unfold idErr at hid;split at hid
   ·omega
   ·omega
  have hwe:IntKind.u64.wrap e=e:=by simp[IntKind.wrap,IntKind.signed,IntKind.bits];omega
  have hwc:IntKind.u64.wrap c=c:=by simp[IntKind.wrap,IntKind.signed,IntKind.bits];omega
  have hpe:zch e 2=0:=by simp[zch,Yde];omega
  have hpc:zch c 2=0:=by simp[zch,Yde];omega
  refine new (fun b hb=>?_);replace hb:M b=none:=hb;(conv=>whnf)
  rw[hwe,ze4,ze4];refine(zf8 _ _ _ _ _ _ [zp o,zp d] (Ybc hb 5 1 2 _ rfl).src oM).mono ?_;rintro v M1 (⟨h1, -⟩|⟨-, a1,c1,rfl,h1⟩)
  ·exact absurd hpe h1
  (conv=>whnf);rw[hwc];refine(zf8 _ _ _ _ _ _ _ h1.new.src oD).mono ?_;rintro v M2 (⟨h2, -⟩|⟨-, a2,c2,rfl,h2⟩)
  ·exact absurd hpc h2
  refine .inr ⟨hid,a2,c2,rfl,?_⟩;have h3:=(h2.new.mono h1.base).mono (Yw hb)
  simpa[zX,zCp] using h3
end Go.Proofs.YtlgbofpennelhaaGreat
namespace Go.Proofs.YtlgbofpennelhaaGreat
open Go Go.Vm
attribute [local irreducible] Brn Ob Grow CallsM inR zI zF Mem.row Mem.cells Mem.setCells Mem.upd Go.Vm.Own zZ zaj zam zO New SrcOk subA NewSl Mem.textAt Mem.mapAt Mem.iterAt zC zB Wr NewEls Elems
set_option maxRecDepth 10000
def zcA (l:List UInt8):IdT:=⟨(l.getD 0 0).toNat,(l.getD 1 0).toNat,zaf l 2 2,zaf l 4 2⟩
def IdT.err (i:IdT):Int:=idErr i.o i.d i.e i.c
@[reducible] def zaV:IdT:=⟨0,0,0,0⟩
def zan (l:List UInt8):Int:=if l.length≠6 then 2 else if (zcA l).err≠0 then 2 else 0
def zcG (l:List UInt8):IdT:=if zan l=0 then zcA l else zaV
theorem zwk {l:List UInt8} (h:zan l≠0):zan l=2:=by
 unfold zan at h ⊢;split
 ·rfl
 ·omega
theorem zAs (l:List UInt8) (k:Nat) (h:k+2≤l.length):zaf l k 2=256*(l.getD k 0).toNat+(l.getD (k+1) 0).toNat:=by
 unfold zaf
 have e:(l.drop (k:Int).toNat).take (Int.toNat 2)=[l[k],l[k+1]]:=by
  rw[show (k:Int).toNat=k by simp,show Int.toNat 2=2 by rfl,Y2 (by omega),Ybu,Y2 (by omega),Ybu,List.take_zero]
 rw[e];simp[num,Ys,Yb (show k<l.length by omega),Yb (show k+1<l.length by omega)]
theorem ziV (l:List UInt8) (k:Nat) (h:k+2≤l.length):zaf l k 2<65536:=by
 rw[zAs l k h];have:=Ya5 (l.getD k 0)
 have:=Ya5 (l.getD (k+1) 0);omega
theorem wrap_i64 {n:Int} (h:0≤n∧n<9223372036854775808):IntKind.i64.wrap n=n:=by
 rw[IntKind.wrap_i64];omega
theorem zmC (a:Option Addr) (n c:Nat) (M:Mem) (l:List UInt8) (hs:SrcOk M 1 a n (l.map zc)) (hn:n≤4194304) (hc:n≤c) :
  CallsM Tryz.prog 234 [.slice a n c] M fun v M'=>v = .tuple #[idA (zcG l),.int .i64 (zan l)]∧M=M':=by
 have hl:=hs.maplen;refine zvI oS ?_;refine brn (fun h=>?_) (fun h=>?_)
 ·have h6:l.length≠6:=by simp at h;omega
  have e:zan l=2:=by rw[zan,if_pos h6]
  rw[zcG,e];exact⟨rfl,rfl⟩
 have h6:n=6:=by simp at h;omega
 subst h6;refine(zdM _ _ _ _ l hs hn hc 2 2 oD).mono ?_;rintro v M' ⟨rfl,rfl⟩;refine(zdM _ _ _ _ l hs hn hc 4 2 oD).mono ?_;rintro v M' ⟨rfl,rfl⟩;obtain⟨h0,b,o,rfl,hr0⟩:=hs.at (i:=0) oD;obtain⟨h1,b',o',hbo,hr1⟩:=hs.at (i:=1) oD;cases hbo;have n2:zaf l 2 2<65536:=ziV l 2 oM
 have n4:zaf l 4 2<65536:=ziV l 4 oM;have b0:=Ya5 l[0]
 have b1:=Ya5 l[1];refine zR ?_;refine on hr0 ?_;refine zR ?_;refine on hr1 ?_;refine zR ?_;rw[wrap_i64 oM,wrap_i64 oM,wrap_i64 oM,wrap_i64 oM];have hid:zcA l=⟨(l[0].toNat:Int),(l[1].toNat:Int),zaf l 2 2,zaf l 4 2⟩:=by simp[zcA,Ys,Yb h0,Yb h1]
 refine zM (zfc _ _ _ _ _) ?_;rintro v M' ⟨rfl,rfl⟩;have he:(zcA l).err=idErr l[0].toNat l[1].toNat (zaf l 2 2) (zaf l 4 2):=by rw[hid];rfl
 rw[←he];have hne:¬l.length≠6:=by omega
 refine brn (fun g=>?_) (fun g=>?_)
 ·have g':(zcA l).err≠0:=by simpa using g
  have e:zan l=2:=by rw[zan,if_neg hne,if_pos g']
  rw[zcG,e];exact⟨rfl,rfl⟩
 ·have g':(zcA l).err=0:=by simpa using g
  have e:zan l=0:=by rw[zan,if_neg hne,if_neg (by simp[g'])]
  rw[zcG,e,if_pos rfl,hid];exact⟨rfl,rfl⟩
def zaJ (l:List UInt8):Int:=if l.length<6 then 2 else if zan (l.take 6)≠0 then 2 else if l.length=6∨54<l.length then 2 else 0
def zaw (l:List UInt8):zcF:=if zaJ l=0 then ⟨zcA (l.take 6),l.drop 6⟩ else ⟨zaV,[]⟩
theorem zAt (a:Option Addr) (n c:Nat) (M:Mem) (l:List UInt8) (hs:SrcOk M 1 a n (l.map zc)) (hn:n≤4194304) (hc:n≤c) :
  CallsM Tryz.prog 229 [.slice a n c] M fun v M'=>∃ p m k,v = .tuple #[.agg #[.int .i64 (zaw l).id.o,.int .i64 (zaw l).id.d,.int .i64 (zaw l).id.e,.int .i64 (zaw l).id.c,.slice p m k],.int .i64 (zaJ l)] ∧
   NewSl M 5 1 p m k ((zaw l).p.map zc) M'∧m≤4194304:=by
 have hl:=hs.maplen;refine zzU oS ?_;refine brn (fun h=>?_) (fun h=>?_)
 ·have e:zaJ l=2:=by rw[zaJ,if_pos (by have:=Zd0 h;omega)]
  refine⟨none,0,0,?_,?_,by decide⟩
  ·rw[zaw,e];rfl
  ·rw[zaw,e];exact Yaw _ _ _
 have h6:6≤l.length:=by have:=Zd1 h;omega
 have hsub:=hs.subm (lo:=0) (hi:=6) oM oM hc;have hsub2:=hs.subm (lo:=6) (hi:=n) oM oM hc
 refine zV ?_;refine(zmC _ _ _ _ (l.take 6) (by simpa using hsub) oD oM).mono ?_;rintro v M' ⟨rfl,rfl⟩;refine brn (fun g=>?_) (fun g=>?_)
 ·have g':zan (l.take 6)≠0:=by simpa using g
  have e:zaJ l=2:=by rw[zaJ,if_neg (by omega),if_pos g']
  have e2:=zwk g';rw[e2];refine⟨none,0,0,?_,?_,by decide⟩
  ·rw[zaw,e];rfl
  ·rw[zaw,e];exact Yaw _ _ _
 have g':zan (l.take 6)=0:=by simpa using g
 have hgi:zcG (l.take 6)=zcA (l.take 6):=by rw[zcG,if_pos g']
 rw[hgi];have hd6:(l.drop 6).length=n - 6:=by simp;omega
 have hsub3:SrcOk M 1 (subA a 6 c 1) (n - 6) ((l.drop 6).map zc):=by rw[Yf oM] at hsub2;exact hsub2
 have hok:msgErr (zcA (l.take 6)).o (zcA (l.take 6)).d (zcA (l.take 6)).e (zcA (l.take 6)).c (n - 6)=if n=6 then 2 else if 54<n then 3 else 0:=by
  have:(zcA (l.take 6)).err=0:=by
   unfold zan at g';split at g'
   ·cases g'
   ·omega
  unfold msgErr;rw[show idErr _ _ _ _=0 from this];simp only[ne_eq,not_true_eq_false,if_false]
  (repeat' split)<;>first|rfl|omega
 refine⟨M,Ya _,?_⟩
 repeat' (first|refine⟨?_,True.intro⟩|refine⟨?_,?_,True.intro⟩|refine new (fun b hb=>?_)|refine ob oM ?_|refine obr oM ?_|fail)
 all_goals
  replace hb:M b=none:=hb;have hN:=Ybc hb 5 1 0 [] rfl
  refine zb2 (hsub3.le (Yw hb)) ?_;refine zb8 M _ hN oM (by simp[maxLen];omega) (zaA _) fun a1 c1 M1 hN1=>?_
  refine zR ?_;refine grow_same hN1.le ?_;refine zM (zin _ _ _ _ _ _ _ _) ?_;rintro v M' ⟨rfl,rfl⟩
  have hz:0+((n:Int).toNat - Int.toNat 6)=n - 6:=by
   have:Int.toNat 6=6:=rfl;omega
  rw[hz] at hN1 ⊢;rw[hok];have h6':¬l.length<6:=by omega
  refine brn (fun g2=>?_) (fun g2=>?_)
  ·have e:zaJ l=2:=by
    rw[zaJ,if_neg h6',if_neg (by simp[g']),if_pos];by_cases h8:n=6
    ·omega
    ·simp_all
   refine⟨none,0,0,?_,?_,by decide⟩
   ·rw[zaw,e];rfl
   ·rw[zaw,e];exact(Yaw _ _ _).up hN1.le
  ·have e:zaJ l=0:=by
    rw[zaJ,if_neg h6',if_neg (by simp[g']),if_neg];by_cases h8:n=6
    ·simp_all
    ·simp_all
   refine⟨a1,n - 6,c1,?_,?_,by omega⟩
   ·rw[zaw,e,if_pos rfl]
   ·rw[zaw,e,if_pos rfl];simpa using hN1
theorem zt7 (a:Option Addr) (n c:Nat) (M:Mem) (l:List UInt8) (hs:SrcOk M 1 a n (l.map zc)) (hn:n≤4194304) (hc:n≤c) :
  CallsM Tryz.prog 229 [.slice a n c] M fun v M'=>∃ p m k,v = .tuple #[.agg #[.int .i64 (zaw l).id.o,.int .i64 (zaw l).id.d,.int .i64 (zaw l).id.e,.int .i64 (zaw l).id.c,.slice p m k],.int .i64 (zaJ l)] ∧
   M.le M'∧SrcOk M' 1 p m ((zaw l).p.map zc)∧m≤4194304∧∀ q,p=some q→M q.block=none:=
 (zAt a n c M l hs hn hc).mono fun v M' ⟨p,m,k,hv,hN,hm⟩=>⟨p,m,k,hv,hN.le,hN.src,hm,fun q hq=>(hN.block hq).1⟩
theorem zd3 {x:Int} (h:0≤x∧x<256):((zp x).toNat:Int)=x:=by
 unfold zp;simp;omega
theorem zfS (b:UInt8):zp (b.toNat:Int)=b:=by
 have:=b.toNat_lt;unfold zp;apply UInt8.toNat_inj.1;simp;omega
theorem zoo {x:Int} (h:0≤x∧x≤65535):(num (two x) 0:Int)=x:=by
 have h1:=zd3 (x:=x / 256) oM
 have h2:((zp x).toNat:Int)=x % 256:=by
  have:zp x=zp (x % 256):=by simp[zp]
  rw[this];exact zd3 oM
 simp only[two,num]
 push_cast
 omega
theorem zyQ {a b:UInt8}:two (num [a,b] 0:Nat)=[a,b]:=by
 have ha:=a.toNat_lt;have hb:=b.toNat_lt
 simp only[num,two];have h1:((256*(256*0+a.toNat)+b.toNat:Nat):Int) / 256=(a.toNat:Int):=by omega
 rw[h1,zfS]
 have h2:zp ((256*(256*0+a.toNat)+b.toNat:Nat):Int)=zp (b.toNat:Int):=by
  unfold zp;congr 2;omega
 rw[h2,zfS]
theorem zrZ {i:IdT} (h:i.err=0):zcA (zX i.o i.d i.e i.c)=i∧(zX i.o i.d i.e i.c).length=6:=by
 obtain⟨h1,h2,h3,h4,h5⟩:=zkE h;refine⟨?_,by rfl⟩;have e1:=zd3 (x:=i.o) oM
 have e2:=zd3 (x:=i.d) oM;have e3:=zoo (x:=i.e) oM
 have e4:=zoo (x:=i.c) oM;have g3:zaf (zX i.o i.d i.e i.c) 2 2=num (two i.e) 0:=rfl
 have g4:zaf (zX i.o i.d i.e i.c) 4 2=num (two i.c) 0:=rfl;unfold zcA;rw[g3,g4,e3,e4];have q1:(zX i.o i.d i.e i.c).getD 0 0=zp i.o:=rfl
 have q2:(zX i.o i.d i.e i.c).getD 1 0=zp i.d:=rfl;rw[q1,q2,e1,e2]
theorem zr0 {l:List UInt8} (h:l.length=6):zX (zcA l).o (zcA l).d (zcA l).e (zcA l).c=l:=by
 match l,h with
 | [a,b,c,d,e,f],_=>
  have g3:zaf [a,b,c,d,e,f] 2 2=num [c,d] 0:=rfl;have g4:zaf [a,b,c,d,e,f] 4 2=num [e,f] 0:=rfl
  unfold zcA;rw[g3,g4];simp only[zX];rw[zyQ,zyQ];have q1:([a,b,c,d,e,f]:List UInt8).getD 0 0=a:=rfl
  have q2:([a,b,c,d,e,f]:List UInt8).getD 1 0=b:=rfl;rw[q1,q2,zfS,zfS];rfl
end Go.Proofs.YtlgbofpennelhaaGreat
namespace Go.Proofs.YtlgbofpennelhaaGreat
open Go Go.Vm
attribute [local irreducible] Brn Ob Grow CallsM inR zI Mem.row Mem.cells Mem.setCells Mem.upd Go.Vm.Own zZ zaj zam zO New SrcOk subA
section
set_option maxRecDepth 10000 in
theorem zmD (a b c d a' b' c' d':Int) (p p':Option Addr) (n k n' k':Nat) (M:Mem) (l l':List UInt8) (h1:SrcOk M 1 p n (l.map zc)) (h2:SrcOk M 1 p' n' (l'.map zc)) :
  CallsM Tryz.prog 269 [.agg #[.int .i64 a,.int .i64 b,.int .i64 c,.int .i64 d,.slice p n k],.agg #[.int .i64 a',.int .i64 b',.int .i64 c',.int .i64 d',.slice p' n' k']] M fun v M'=>
   v = .bool (decide ((a=a'∧b=b'∧c=c'∧d=d')∧l=l'))∧M=M':=by
 refine zxI oS ?_
 repeat' (first
  | refine zsD h1 ?_
  | refine zsD h2 ?_
  | refine brn (fun h=>?_) (fun h=>?_))
 all_goals (conv=>whnf)
 all_goals (refine⟨?_,rfl⟩;simp_all)
end
section
def cost (c:Int):Bool:=decide (0≤c∧c≤16)
end
section
structure W where
 kind:Int
 n:Int
 o:Int
 d:Int
 e:Int
 c:Int
 pD:Option Addr
 nD:Nat
 kD:Nat
 pC:Option Addr
 nC:Nat
 kC:Nat
 data:List UInt8
 costs:List Int
def W.v (w:W):Value := .agg #[.int .i64 w.kind,.int .i64 w.n,.int .i64 w.o,.int .i64 w.d,.int .i64 w.e,.int .i64 w.c,.slice w.pD w.nD w.kD,.slice w.pC w.nC w.kC]
structure W.Ok (w:W) (M:Mem):Prop where
 data:SrcOk M 1 w.pD w.nD (w.data.map zc)
 costs:SrcOk M 1 w.pC w.nC (w.costs.map zi)
 nD:w.nD≤2097152
 nC:w.nC≤2097152
def W.bare (w:W):Prop:=(w.o=0∧w.d=0∧w.e=0∧w.c=0)∧w.data=[]
instance (w:W):Decidable w.bare:=by unfold W.bare;infer_instance
def W.routes (w:W):Int:=if (w.costs.all cost&&decide (w.nC=64))=true∧w.bare∧w.n=0 then 0 else 2
def W.idErr (w:W):Int:=Go.Proofs.YtlgbofpennelhaaGreat.idErr w.o w.d w.e w.c
def W.msgErr (w:W):Int:=Go.Proofs.YtlgbofpennelhaaGreat.msgErr w.o w.d w.e w.c w.nD
def W.err (w:W):Int:=
 if w.kind<1∨4<w.kind∨w.n<0∨65535<w.n then 1
 else if w.kind=4 then w.routes
 else if w.kind=1 then (if w.msgErr≠0 then w.msgErr else if 0<w.nC then 2 else 0)
 else (if w.idErr≠0 then w.idErr else if 0<w.nC∨0<w.nD then 2 else 0)
theorem zbR (M:Mem):SrcOk M 1 none 0 (([]:List UInt8).map zc):=by unfold SrcOk;exact⟨rfl,.inl rfl⟩
theorem W.Ok.lenD {w:W} {M:Mem} (h:w.Ok M):w.data.length=w.nD:=by have:=h.data;unfold SrcOk at this;simpa using this.1
theorem W.Ok.lenC {w:W} {M:Mem} (h:w.Ok M):w.costs.length=w.nC:=by have:=h.costs;unfold SrcOk at this;simpa using this.1
end
section
def W.cs (w:W):List SC:=[.v (.int .i64 w.kind),.v (.int .i64 w.n),.v (.int .i64 w.o),.v (.int .i64 w.d),.v (.int .i64 w.e),.v (.int .i64 w.c),.v (.slice w.pD w.nD w.kD),.v (.slice w.pC w.nC w.kC)]
def zGN:List SC:=[.v (.int .i64 0),.v (.int .i64 0),.v (.int .i64 0),.v (.int .i64 0),.v (.slice none 0 0)]
set_option maxRecDepth 10000 in
theorem zkF (w:W) (M:Mem) (hw:w.Ok M):CallsM Tryz.prog 180 [w.v] M fun v M'=>v = .int .i64 w.err∧M=M':=by
 refine zvG (by simp) ?_;have hlD:=hw.lenD
 have hlC:=hw.lenC;have hnC:=hw.nC
 (conv=>whnf)
 repeat' ((conv=>whnf);first
  | (refine(zfc _ _ _ _ _).mono ?_;rintro v M' ⟨rfl,rfl⟩)
  | (refine(zin _ _ _ _ _ _ _ _).mono ?_;rintro v M' ⟨rfl,rfl⟩)
  | (refine(zmD _ _ _ _ _ _ _ _ _ _ _ _ _ _ _ w.data [] hw.data (zbR _)).mono ?_;rintro v M' ⟨rfl,rfl⟩)
  | (refine(zmD _ _ _ _ _ _ _ _ _ _ _ _ _ _ _ w.data w.data hw.data hw.data).mono ?_;rintro v M' ⟨rfl,rfl⟩)
  | refine brn_t (by assumption) ?_
  | refine brn_f (by assumption) ?_
  | refine loop (σ:=Nat) (fun i=>⟨[(57,.int .i64 i),(56,.int .i64 w.nC),(55,.slice w.pC w.nC w.kC),(1,.c (.bx 0 0)),(3,.c (.bx 1 0))],[.live 144 w.cs,.live 82 zGN],_⟩)
     (fun i=>i≤w.nC∧(w.costs.take i).all cost=true) (fun i=>w.nC - i) 0 ⟨by omega,by simp⟩ ⟨⟨rfl,rfl,rfl,rfl,rfl,trivial⟩,⟨rfl,rfl,trivial⟩,Ya _,rfl⟩ ?_
  | refine brn (fun h=>?_) (fun h=>?_))
 all_goals (try (conv=>whnf))
 all_goals first
  | (refine⟨?_,rfl⟩
     congr 1;simp only[decide_eq_true_eq,decide_eq_false_iff_not,Yah,Ybq,and_self,true_and] at *;unfold W.err W.msgErr W.idErr
     (repeat' split)<;>first|rfl|omega|grind [W.routes,W.bare])
  | skip
 intro i ⟨hi,hall⟩;rename_i h1 h2 h3 h4 h5 h6 h7;simp only[decide_eq_true_eq,decide_eq_false_iff_not,Yah,Ybq] at h1 h2 h6 h7 h;(conv=>whnf)
 refine brn (fun g1=>?_) (fun g1=>?_)
 ·simp only[decide_eq_true_eq] at g1;have hget:(w.costs.map zi)[i]? = some (zi w.costs[i]):=by simp[Yb (show i<w.costs.length by omega)]
  obtain⟨b,o,hp,hrow⟩:=hw.costs.get hget;have hrow':M.row b (o+(i:Int).toNat*1) 1=some [zi w.costs[i]]:=by simpa using hrow
  have hfail:cost w.costs[i]=false→w.costs.all cost=false:=fun hc=>by
   rw[List.all_eq_false];exact⟨w.costs[i],by simp,by simp[hc]⟩
  (conv=>whnf);refine ob (by omega) ?_;(conv=>whnf)
  refine atp hp ?_;(conv=>whnf)
  refine on hrow' ?_;(conv=>whnf)
  refine brn (fun g2=>?_) (fun g2=>?_)
  ·(conv=>whnf);refine⟨?_,rfl⟩;simp only[decide_eq_true_eq] at g2;have:=hfail (by simp[cost];omega)
   simp[W.err,W.routes,this,h6];omega
  (conv=>whnf);refine brn (fun g3=>?_) (fun g3=>?_)
  ·(conv=>whnf);refine⟨?_,rfl⟩;simp only[decide_eq_true_eq] at g3;have:=hfail (by simp[cost];omega)
   simp[W.err,W.routes,this,h6];omega
  (conv=>whnf);refine obr (inR_i64 (by omega)) ?_;(conv=>whnf)
  simp only[decide_eq_false_iff_not] at g2 g3;refine⟨i+1,⟨by omega,?_⟩,by omega,⟨rfl,rfl,rfl,rfl,rfl,trivial⟩,⟨rfl,rfl,trivial⟩,Ya _,rfl⟩;rw[Y1,List.all_append,hall,Yb (by omega)];simp[cost];omega
 ·simp only[decide_eq_false_iff_not] at g1;have hin:i=w.costs.length:=by omega
  rw[hin,Yaj] at hall;(conv=>whnf)
  refine(zmD _ _ _ _ _ _ _ _ _ _ _ _ _ _ _ w.data [] hw.data (zbR _)).mono ?_;rintro v M' ⟨rfl,rfl⟩
  repeat' ((conv=>whnf);first
   | refine brn_t (by assumption) ?_
   | refine brn_f (by assumption) ?_
   | refine brn (fun h=>?_) (fun h=>?_))
  all_goals (conv=>whnf)
  all_goals (refine⟨?_,rfl⟩;congr 1)
  all_goals simp[W.err,W.routes,W.bare,hall,h6] at *
  all_goals grind
end
end Go.Proofs.YtlgbofpennelhaaGreat
namespace Go.Proofs.YtlgbofpennelhaaGreat
open Go Go.Vm
attribute [local irreducible] Brn Ob Grow CallsM inR zI Mem.row Mem.cells Mem.setCells Mem.upd Go.Vm.Own zZ zaj zam zO New SrcOk subA NewSl
section
theorem zxT {o d e c:Int} (hid:idErr o d e c=0):(0≤o∧o≤63)∧(0≤d∧d≤63)∧(1≤e∧e≤65535)∧(1≤c∧c≤65535)∧o≠d:=by
 unfold idErr at hid;split at hid
 ·omega
 ·omega
def W.bytes (w:W):List UInt8:=zp w.kind::(if w.kind=4 then w.costs.map zp else two w.n++zX w.o w.d w.e w.c++w.data)
theorem W.err_zero {w:W} (h1:w.data.length=w.nD) (h2:w.costs.length=w.nC) (h:w.err=0):(1≤w.kind∧w.kind≤4∧0≤w.n∧w.n≤65535) ∧
  (w.kind=4→(w.costs.all cost=true∧w.nC=64)∧w.bare∧w.n=0)∧(w.kind≠4→Go.Proofs.YtlgbofpennelhaaGreat.idErr w.o w.d w.e w.c=0∧w.nC=0)∧(w.kind=1→1≤w.nD∧w.nD≤48)∧(w.kind≠1→w.nD=0):=by
 have h3:w.data=[]→w.nD=0:=fun h=>by simp_all
 unfold W.err W.routes W.idErr W.msgErr Go.Proofs.YtlgbofpennelhaaGreat.msgErr at h;by_cases hk:w.kind<1∨4<w.kind∨w.n<0∨65535<w.n
 ·omega
 rw[if_neg hk] at h;by_cases h4:w.kind=4
 ·rw[if_pos h4] at h;split at h
  ·rename_i hc;simp only[Yl,decide_eq_true_eq] at hc;exact⟨by omega,fun _=>⟨hc.1,hc.2⟩,fun h=>absurd h4 h,fun h=>by omega,fun _=>h3 hc.2.1.2⟩
  ·cases h
 rw[if_neg h4] at h;by_cases h5:w.kind=1
 ·omega
 ·omega
end
section
def zGO (w:W) (M:Mem) (v:Value) (M':Mem):Prop:=(w.err≠0∧v = .tuple #[.slice none 0 0,.int .i64 w.err]∧M=M') ∨
   (w.err=0∧∃ a' c',v = .tuple #[.slice a' w.bytes.length c',.int .i64 0]∧NewSl M 5 1 a' w.bytes.length c' (w.bytes.map zc) M')
set_option maxRecDepth 10000 in
theorem zCq (w:W) (M:Mem) (hw:w.Ok M):CallsM Tryz.prog 118 [w.v] M (zGO w M):=by
 refine zzO oS ?_;refine(zkF w M hw).mono ?_;rintro v M' ⟨rfl,rfl⟩;refine brn (fun h=>?_) (fun h=>?_)
 ·(conv=>whnf);exact .inl ⟨by simp_all,rfl,rfl⟩
 have he:w.err=0:=by simpa using h
 obtain⟨hr,h4,hn4,hk1,hkn⟩:=W.err_zero hw.lenD hw.lenC he;refine new (fun b hb=>?_);replace hb:M b=none:=hb;rw[ze4];have hN:=Ybc hb 5 1 1 [zc (zp w.kind)] rfl
 have hlC:=hw.lenC;have hlD:=hw.lenD
 refine brn (fun h=>?_) (fun h=>?_)
 ·have hk:w.kind=4:=by simpa using h
  have hn:=(h4 hk).1.2;have hb4:w.bytes=zp w.kind::w.costs.map zp:=by rw[W.bytes,if_pos hk]
  refine zak (σ:=Nat×Option Addr×Nat×Mem) [25,5] (fun|⟨i,a,c,_⟩=>[(25,.int .i64 i),(5,.slice a (1+i) c)]) (fun _=>[.live 144 w.cs,.gone b]) (fun x=>x.2.2.2)
   (fun|⟨i,a,c,M1⟩=>i≤64∧NewSl M 5 1 a (1+i) c ((zp w.kind::(w.costs.take i).map zp).map zc) M1) (fun x=>64 - x.1) ⟨0,_,_,_⟩ ⟨by omega,hN⟩ ⟨⟨rfl,rfl,rfl,rfl,rfl,rfl,rfl,trivial⟩,⟨rfl,rfl,trivial⟩,Ya _,rfl⟩ ?_
  rintro ⟨i,a,c,M1⟩ ⟨hi,hN1⟩;refine brn (fun g=>?_) (fun g=>?_)
  ·simp only[decide_eq_true_eq] at g;obtain⟨hl,bb,o,hp,hrow⟩:=(hw.costs.le hN1.le).at (i:=i) oM;refine ob oM ?_;refine atp hp ?_;refine on hrow ?_;refine zb8 M _ hN1 oM (by simp[maxLen];omega) oC fun a2 c2 M2 hN2=>?_
   rw[ze4] at hN2;refine obr (inR_i64 oM) ?_;refine⟨⟨i+1,a2,c2,M2⟩,⟨by omega,?_⟩,by omega,⟨rfl,rfl,rfl,rfl,rfl,rfl,rfl,trivial⟩,⟨rfl,rfl,trivial⟩,Ya _,rfl⟩;rw[znc hl,←Yby,Yv];exact hN2
  ·simp only[decide_eq_false_iff_not] at g;have:i=64:=by omega
   subst this;refine .inr ⟨he,a,c,?_,?_⟩
   ·simp_all
   ·rw[hb4];rw[Yf oM] at hN1;have:(zp w.kind::w.costs.map zp).length=1+64:=by simp[hlC,hn]
    rw[this];exact hN1
 ·have hk:w.kind≠4:=by simpa using h
  have hwn:IntKind.u64.wrap w.n=w.n:=by simp[IntKind.wrap,IntKind.signed,IntKind.bits];omega
  have hpn:zch w.n 2=0:=by simp[zch,Yde];omega
  have hb4:w.bytes=zp w.kind::(two w.n++zX w.o w.d w.e w.c++w.data):=by rw[W.bytes,if_neg hk]
  (conv=>whnf);rw[hwn];refine(zf8 _ _ _ _ _ _ [zp w.kind] hN.src oM).mono ?_;rintro v M1 (⟨h1, -⟩|⟨-, a1,c1,rfl,h1⟩)
  ·omega
  have hN1:=h1.new.mono hN.le;refine(zmB _ _ _ _ _).mono ?_;rintro v M2 (⟨h2, -⟩|⟨-, a2,c2,rfl,h2⟩)
  ·omega
  refine⟨M,Yc hN1.le h2.le,?_⟩;refine⟨?_,trivial⟩;refine zb2 h2.src ?_;refine zb8 M _ (hN1.up h2.le) oS (by simp[maxLen]) (by simp[zc,Value.oneCell']) fun a3 c3 M3 h3=>?_
  refine ob rfl ?_;refine ob rfl ?_
  first|refine ob h3.le ?_|refine grow_same h3.le ?_
  refine⟨?_,trivial⟩;refine zb2 (hw.data.le h3.le) ?_;have hnd:w.nD≤48:=by by_cases g:w.kind=1<;>omega
  refine zb8 M _ h3 oE (by simp[maxLen];omega) (by simp[zc,Value.oneCell']) fun a4 c4 M4 hN4=>?_
  have hlen:w.bytes.length=1+Int.toNat 2+6+w.nD:=by rw[hb4];simp[two,zX,hlD];omega
  refine .inr ⟨he,a4,c4,by rw[hlen],?_⟩;rw[hlen,hb4];simpa[zCp,two,zX] using hN4
end
end Go.Proofs.YtlgbofpennelhaaGreat
namespace Go.Proofs.YtlgbofpennelhaaGreat
open Go Go.Vm Go.Proofs.Tryz
attribute [local irreducible] Brn Ob Grow CallsM inR zI zF Mem.row Mem.cells Mem.setCells Mem.upd Go.Vm.Own zZ zaj zam zO New SrcOk subA NewSl Mem.textAt Mem.mapAt Mem.iterAt zC zB Wr NewEls Elems
set_option maxRecDepth 10000
section
structure Word where
 kind:Int
 n:Int
 id:IdT
 data:List UInt8
 costs:List Int
def Word.w (x:Word) (pD:Option Addr) (kD:Nat) (pC:Option Addr) (kC:Nat):W:=⟨x.kind,x.n,x.id.o,x.id.d,x.id.e,x.id.c,pD,x.data.length,kD,pC,x.costs.length,kC,x.data,x.costs⟩
def Word.err (x:Word):Int:=(x.w none 0 none 0).err
def Word.bytes (x:Word):List UInt8:=(x.w none 0 none 0).bytes
def zeroW:Word:=⟨0,0,zaV,[],[]⟩
def zfw (l:List UInt8):Word×Int:=
 let k:Int:=(l.getD 0 0).toNat
 if k=4 then (⟨4,0,zaV,[],(l.drop 1).map fun b=>(b.toNat:Int)⟩,0)
 else if l.length<3 then (zeroW,2)
 else if k=1 then (⟨1,zaf l 1 2,(zaw (l.drop 3)).id,(zaw (l.drop 3)).p,[]⟩,zaJ (l.drop 3))
 else (⟨k,zaf l 1 2,zcG (l.drop 3),[],[]⟩,zan (l.drop 3))
def zcw (l:List UInt8):Option Word:=if l=[]∨(zfw l).2≠0∨(zfw l).1.err≠0 then none else some (zfw l).1
def zGP (x:Option Word) (M:Mem) (v:Value) (M':Mem):Prop:=M.le M'∧match x with
 | none=>v = .tuple #[(zeroW.w none 0 none 0).v,.int .i64 2]
 | some x=>∃ pD kD pC kC,v = .tuple #[(x.w pD kD pC kC).v,.int .i64 0]∧(x.w pD kD pC kC).Ok M'∧∀ q,pD=some q∨pC=some q→M q.block=none
theorem zxU (a:Option Addr) (n c:Nat) (M:Mem) (l:List UInt8) (hs:SrcOk M 1 a n (l.map zc)) (hn:n≤4194304) (hc:n≤c) (at' size:Int) :
  CallsM prog 188 [.slice a n c,.int .i64 at',.int .i64 size] M fun v M'=>(∃ N:Nat,v = .tuple #[.int .u64 N,.int .i64 (zaL n at' size)]∧(zaL n at' size=0→N=zaf l at' size))∧M=M':=by
 by_cases he:zaL n at' size=0
 ·refine(zdM a n c M l hs hn hc at' size he).mono ?_;rintro v M' ⟨rfl,rfl⟩;exact⟨⟨_,by rw[he],fun _=>rfl⟩,rfl⟩
 ·refine(zf9 a n c M at' size he hn).mono ?_;rintro v M' ⟨rfl,rfl⟩;exact⟨⟨0,rfl,fun h=>absurd h he⟩,rfl⟩
theorem Word.werr (x:Word) (pD kD pC kC):(x.w pD kD pC kC).err=x.err:=rfl
theorem zCr (a:Option Addr) (n c:Nat) (M:Mem) (l:List UInt8) (hs:SrcOk M 1 a n (l.map zc)) (hn:n≤2097152) (hc:n≤c):CallsM prog 193 [.slice a n c] M (zGP (zcw l) M):=by
 have hl:=hs.maplen;refine zzQ oS ?_;refine brn (fun h=>?_) (fun h=>?_)
 ·have hnil:l=[]:=by have:=Zd0 h;exact Y8 oM
  have e:zcw l=none:=by rw[zcw,if_pos (.inl hnil)]
  rw[e];exact⟨Ya _,rfl⟩
 have h1:1≤n:=by have:=Zd1 h;omega
 have hne:l≠[]:=by intro e;subst e;simp at hl;omega
 obtain⟨h0,b,o,rfl,hr0⟩:=hs.at (i:=0) oM;have hk:(l.getD 0 0)=l[0]:=by simp[Ys,Yb h0]
 have hb0:=Ya5 l[0];refine ob oM ?_;refine on hr0 ?_;(conv=>whnf)
 rw[wrap_i64 oM];refine(zxU _ _ _ _ l hs oM hc 1 2).mono ?_;rintro v M' ⟨⟨N,rfl,hN⟩,rfl⟩
 have hge:zaL n 1 2=if n<3 then 2 else 0:=by
  rw[zaL,if_neg oM];by_cases h:n<3
  ·rw[if_pos oM,if_pos h]
  ·rw[if_neg oM,if_neg h]
 refine brn (fun g=>?_) (fun g=>?_)
 ·have hk4:((l.getD 0 0).toNat:Int)=4:=by rw[hk];exact Zd0 g
  have hsaid:zfw l=(⟨4,0,zaV,[],(l.drop 1).map fun b=>(b.toNat:Int)⟩,0):=by rw[zfw];simp only[hk4,if_true]
  have hsub:=hs.subm (lo:=1) (hi:=n) oM oM hc;rw[Yf oE] at hsub;have hdl:(l.drop 1).length=n - 1:=by simp;omega
  refine zP ?_;have hz:(n:Int).toNat - Int.toNat 1=n - 1:=by have:Int.toNat 1=1:=rfl;omega
  rw[hz]
  refine zak (σ:=Nat×Option Addr×Nat×Mem) [41] (fun x=>[(41,.int .i64 x.1)]) (fun x=>[.live 144 [.v (.int .i64 0),.v (.int .i64 0),.v (.int .i64 0),.v (.int .i64 0),.v (.int .i64 0),.v (.int .i64 0),.v (.slice none 0 0),.v (.slice none 0 0)],
    .live 144 [.v (.int .i64 l[0].toNat),.v (.int .i64 0),.v (.int .i64 0),.v (.int .i64 0),.v (.int .i64 0),.v (.int .i64 0),.v (.slice none 0 0),.v (.slice x.2.1 x.1 x.2.2.1)]]) (fun x=>x.2.2.2)
   (fun x=>x.1≤n - 1∧NewSl M 3 1 x.2.1 x.1 x.2.2.1 ((((l.drop 1).map fun b=>(b.toNat:Int)).take x.1).map zi) x.2.2.2) (fun x=>n - 1 - x.1) ⟨0,none,0,M⟩ ⟨by simp,Yaw _ _ _⟩ zS ?_
  rintro ⟨i,a1,c1,M1⟩ ⟨hi,hN1⟩;refine brn (fun g1=>?_) (fun g1=>?_)
  ·have hi':i<n - 1:=by have:=Zd0 g1;simp only at this hi;omega
   obtain⟨hlt,b',o',hp,hrow⟩:=(hsub.le hN1.le).at (i:=i) hi';have hbi:=Ya5 (l.drop 1)[i]
   refine ob oN ?_;refine atp hp ?_;refine on hrow ?_;refine zb8 M _ hN1 oN (by simp[maxLen];omega) oC fun a2 c2 M2 hN2=>?_
   rw[wrap_i64 oM] at hN2;refine zP ?_;refine⟨⟨i+1,a2,c2,M2⟩,⟨by dsimp only;omega,?_⟩,by show n - 1 - (i+1)<n - 1 - i;omega,zS⟩;show NewSl M 3 1 a2 (i+1) c2 _ M2
   rw[znc (by simpa using hlt)];simpa using hN2
  ·have hi':i=n - 1:=by have:=Zd1 g1;simp only at this hi;omega
   subst hi';rw[Yf oE] at hN1
   let x:Word:=⟨l[0].toNat,0,zaV,[],(l.drop 1).map fun b=>(b.toNat:Int)⟩
   have hxl:x.costs.length=n - 1:=by simp[x];omega
   have hw:(x.w none 0 a1 c1).Ok M1:=⟨Ybh _ _,by show SrcOk M1 1 a1 x.costs.length _;rw[hxl];exact hN1.src,Y5 _,by show x.costs.length≤_;omega⟩
   have hx:(zfw l).1=x:=by rw[hsaid];simp only[x];rw[←hk,hk4]
   have hv:(x.w none 0 a1 c1).v = .agg #[.int .i64 l[0].toNat,.int .i64 0,.int .i64 0,.int .i64 0,.int .i64 0,.int .i64 0,.slice none 0 0,.slice a1 (n - 1) c1]:=by
    show W.v _=_;unfold W.v Word.w;rw[hxl];rfl
   have hcheck:=zkF _ _ hw;rw[hv] at hcheck;refine brn_f rfl ?_;refine hcheck.mono ?_;rintro v M' ⟨rfl,rfl⟩;refine brn (fun g2=>?_) (fun g2=>?_)<;>rw[Word.werr] at g2
   ·have e:zcw l=none:=by rw[zcw,if_pos (.inr (.inr (by rw[hx];simpa using g2)))]
    rw[e];exact⟨hN1.le,rfl⟩
   ·have e:zcw l=some x:=by rw[zcw,if_neg,hx];rw[hsaid];rw[hsaid] at hx;simp only at hx;rw[hx];simp[hne,show x.err=0 by simpa using g2]
    rw[e];exact⟨hN1.le,none,0,a1,c1,by rw[hv],hw,fun q hq=>hq.elim (fun h=>by cases h) (fun h=>(hN1.block h).1)⟩
 ·have hk4:¬((l.getD 0 0).toNat:Int)=4:=by rw[hk];exact Zd1 g
  refine brn (fun g1=>?_) (fun g1=>?_)
  ·have h3:n<3:=by
    have:zaL n 1 2≠0:=by simpa using g1
    rw[hge] at this;by_cases h:n<3
    ·exact h
    ·rw[if_neg h] at this;exact absurd rfl this
   have hsaid:zfw l=(zeroW,2):=by rw[zfw];simp only[hk4,if_false];rw[if_pos oM]
   have e:zcw l=none:=by rw[zcw,if_pos (.inr (.inl (by rw[hsaid];decide)))]
   refine brn_t g1 ?_;rw[e];exact⟨Ya _,rfl⟩
  have h3:¬n<3:=fun h=>by
   rw[hge,if_pos h] at g1;simp at g1
  have hg0:zaL n 1 2=0:=by rw[hge,if_neg h3]
  have hN':=hN hg0;subst hN';have hlt:zaf l 1 2<65536:=ziV l 1 oM
  have hsub:=hs.subm (lo:=3) (hi:=n) oM oM hc;rw[Yf oE] at hsub;have hdl:(l.drop 3).length=n - 3:=by simp;omega
  have hz:(n:Int).toNat - Int.toNat 3=n - 3:=by have:Int.toNat 3=3:=rfl;omega
  refine brn (fun g2=>?_) (fun g2=>?_)
  rotate_left
  have hk1:¬((l.getD 0 0).toNat:Int)=1:=by rw[hk];exact Zd1 g2
  have hsaid:zfw l=(⟨l[0].toNat,zaf l 1 2,zcG (l.drop 3),[],[]⟩,zan (l.drop 3)):=by
   rw[zfw];simp only[if_neg hk4,if_neg hk1];rw[if_neg oM,hk]
  refine zP ?_;rw[hz,wrap_i64 oM];refine(zmC _ _ _ _ (l.drop 3) hsub oM (by have:Int.toNat 3=3:=rfl;omega)).mono ?_;rintro v M1 ⟨rfl,rfl⟩
  let x:Word:=⟨l[0].toNat,zaf l 1 2,zcG (l.drop 3),[],[]⟩
  have hx:(zfw l).1=x:=by rw[hsaid]
  have hw:(x.w none 0 none 0).Ok M:=⟨Ybh _ _,Ybh _ _,Y5 _,Y5 _⟩
  have hv:(x.w none 0 none 0).v = .agg #[.int .i64 l[0].toNat,.int .i64 (zaf l 1 2),.int .i64 (zcG (l.drop 3)).o,.int .i64 (zcG (l.drop 3)).d,.int .i64 (zcG (l.drop 3)).e,.int .i64 (zcG (l.drop 3)).c,.slice none 0 0,.slice none 0 0]:=rfl;have hcheck:=zkF _ _ hw
  rw[hv] at hcheck;have hle:=Ya M
  have hfresh:∀ q,(none:Option Addr)=some q∨(none:Option Addr)=some q→M q.block=none:=fun q hq=>hq.elim (fun h=>by cases h) (fun h=>by cases h)
  rotate_left
  have hk1:((l.getD 0 0).toNat:Int)=1:=by rw[hk];exact Zd0 g2
  have hsaid:zfw l=(⟨1,zaf l 1 2,(zaw (l.drop 3)).id,(zaw (l.drop 3)).p,[]⟩,zaJ (l.drop 3)):=by
   rw[zfw];simp only[hk1];rw[if_neg oD,if_neg oM];rfl
  refine zP ?_;rw[hz,wrap_i64 oM];refine(zt7 _ _ _ _ (l.drop 3) hsub oM (by have:Int.toNat 3=3:=rfl;omega)).mono ?_;rintro v M1 ⟨p,m,k,rfl,hle,hsrc,hm,hf1⟩;have hfresh:∀ q,p=some q∨(none:Option Addr)=some q→M q.block=none:=fun q hq=>hq.elim (hf1 q) (fun h=>by cases h)
  have hml:=hsrc.maplen
  have hm':m≤2097152:=by
   have:(zaw (l.drop 3)).p.length≤n:=by
    rw[zaw];split
    ·simp;omega
    ·simp
   omega
  let x:Word:=⟨l[0].toNat,zaf l 1 2,(zaw (l.drop 3)).id,(zaw (l.drop 3)).p,[]⟩
  have hx:(zfw l).1=x:=by rw[hsaid];simp only[x];rw[←hk,hk1]
  have hw:(x.w p k none 0).Ok M1:=⟨by show SrcOk M1 1 p x.data.length _;rw[show x.data.length=m from hml];exact hsrc,Ybh _ _,by show x.data.length≤_;rw[show x.data.length=m from hml];exact hm',Y5 _⟩
  have hv:(x.w p k none 0).v = .agg #[.int .i64 l[0].toNat,.int .i64 (zaf l 1 2),.int .i64 (zaw (l.drop 3)).id.o,.int .i64 (zaw (l.drop 3)).id.d,.int .i64 (zaw (l.drop 3)).id.e,.int .i64 (zaw (l.drop 3)).id.c,.slice p m k,.slice none 0 0]:=by
   show W.v _=_;unfold W.v Word.w;rw[show x.data.length=m from hml];rfl
  have hcheck:=zkF _ _ hw;rw[hv] at hcheck
  all_goals
   refine brn (fun g3=>?_) (fun g3=>?_)
   ·have e:zcw l=none:=by rw[zcw,if_pos (.inr (.inl (by rw[hsaid];simpa using g3)))]
    rw[e];exact⟨hle,rfl⟩
   refine hcheck.mono ?_;rintro v M' ⟨rfl,rfl⟩;refine brn (fun g4=>?_) (fun g4=>?_)<;>rw[Word.werr] at g4
   ·have e:zcw l=none:=by rw[zcw,if_pos (.inr (.inr (by rw[hx];simpa using g4)))]
    rw[e];exact⟨hle,rfl⟩
   ·have hz2:(zfw l).2=0:=by rw[hsaid];simpa using g3
    have hz3:x.err=0:=by simpa using g4
    have e:zcw l=some x:=by rw[zcw,if_neg (by rw[hx,hz2,hz3];simp[hne]),hx]
    rw[e];exact⟨hle,_,_,_,_,by rw[hv],hw,hfresh⟩
end
section
def IdT.v (i:IdT):Value := .agg #[.int .i64 i.o,.int .i64 i.d,.int .i64 i.e,.int .i64 i.c]
structure Known where
 to:Int
 n:Int
 ticks:Int
 waits:Int
deriving DecidableEq
def Known.v (i:Known):Value := .agg #[.int .i64 i.to,.int .i64 i.n,.int .i64 i.ticks,.int .i64 i.waits]
theorem zfC:zeE IdT.v:=by
 intro a b;obtain⟨a1,a2,a3,a4⟩:=a;obtain⟨b1,b2,b3,b4⟩:=b;simp only[IdT.v,zeD,zbM,if_true,IdT.mk.injEq]
 (grind)<;>simp_all
structure DeskAt (M:Mem) (p b:Nat) (wait next:Int) (m:List (IdT×Known)):Prop where
 self:M.has p 177 [.int .i64 wait,.int .i64 next,.map (some b)]
 ne:p≠b
 map:MapAt IdT.v Known.v M b m
def zgs (m:List (IdT×Known)) (n:Int) (i:IdT):Bool:=match ze m i with|some k=>decide (k.waits=0)&&decide (k.to=n)|none=>false
def zop (m:List (IdT×Known)) (i:IdT):Bool:=match ze m i with|some k=>decide (k.waits=0)|none=>false
set_option maxRecDepth 10000 in
theorem zAu (p b:Nat) (wait next:Int) (m:List (IdT×Known)) (M:Mem) (hd:DeskAt M p b wait next m) (n:Int) (i:IdT) :
  CallsM prog 212 [ptr p,.int .i64 n,i.v] M fun v M'=>v = .bool (zgs m n i)∧M=M':=by
 refine zsP oS ?_;refine brn_f rfl ?_;refine zK hd.self ?_;refine hd.map.get zfC i (fun h=>?_) (fun x j h=>?_)
 ·refine zR ?_;exact⟨by simp[zgs,h],rfl⟩
 ·refine zR ?_;refine brn (fun g=>?_) (fun g=>?_)
  ·refine zR ?_;exact⟨by simp_all [zgs],rfl⟩
  ·refine zR ?_;exact⟨by simp_all [zgs],rfl⟩
end
section
theorem zcY:zeE zi:=by
 intro a b;simp[zi,zeD]
structure Hrd where
 c:Nat→Int
 left:Int
@[reducible] def Hrd.vs (h:Hrd):List Value:=[.int .i64 (h.c 0),.int .i64 (h.c 1),.int .i64 (h.c 2),.int .i64 (h.c 3),.int .i64 (h.c 4),.int .i64 (h.c 5),.int .i64 (h.c 6),.int .i64 (h.c 7),.int .i64 (h.c 8),.int .i64 (h.c 9),.int .i64 (h.c 10),.int .i64 (h.c 11),.int .i64 (h.c 12),.int .i64 (h.c 13),.int .i64 (h.c 14),.int .i64 (h.c 15),.int .i64 (h.c 16),.int .i64 (h.c 17),.int .i64 (h.c 18),.int .i64 (h.c 19),.int .i64 (h.c 20),.int .i64 (h.c 21),.int .i64 (h.c 22),.int .i64 (h.c 23),.int .i64 (h.c 24),.int .i64 (h.c 25),.int .i64 (h.c 26),.int .i64 (h.c 27),.int .i64 (h.c 28),.int .i64 (h.c 29),.int .i64 (h.c 30),.int .i64 (h.c 31),.int .i64 (h.c 32),.int .i64 (h.c 33),.int .i64 (h.c 34),.int .i64 (h.c 35),.int .i64 (h.c 36),.int .i64 (h.c 37),.int .i64 (h.c 38),.int .i64 (h.c 39),.int .i64 (h.c 40),.int .i64 (h.c 41),.int .i64 (h.c 42),.int .i64 (h.c 43),.int .i64 (h.c 44),.int .i64 (h.c 45),.int .i64 (h.c 46),.int .i64 (h.c 47),.int .i64 (h.c 48),.int .i64 (h.c 49),.int .i64 (h.c 50),.int .i64 (h.c 51),.int .i64 (h.c 52),.int .i64 (h.c 53),.int .i64 (h.c 54),.int .i64 (h.c 55),.int .i64 (h.c 56),.int .i64 (h.c 57),.int .i64 (h.c 58),.int .i64 (h.c 59),.int .i64 (h.c 60),.int .i64 (h.c 61),.int .i64 (h.c 62),.int .i64 (h.c 63),.int .i64 h.left]
@[reducible] def Hrd.v (h:Hrd):Value := .agg #[.int .i64 (h.c 0),.int .i64 (h.c 1),.int .i64 (h.c 2),.int .i64 (h.c 3),.int .i64 (h.c 4),.int .i64 (h.c 5),.int .i64 (h.c 6),.int .i64 (h.c 7),.int .i64 (h.c 8),.int .i64 (h.c 9),.int .i64 (h.c 10),.int .i64 (h.c 11),.int .i64 (h.c 12),.int .i64 (h.c 13),.int .i64 (h.c 14),.int .i64 (h.c 15),.int .i64 (h.c 16),.int .i64 (h.c 17),.int .i64 (h.c 18),.int .i64 (h.c 19),.int .i64 (h.c 20),.int .i64 (h.c 21),.int .i64 (h.c 22),.int .i64 (h.c 23),.int .i64 (h.c 24),.int .i64 (h.c 25),.int .i64 (h.c 26),.int .i64 (h.c 27),.int .i64 (h.c 28),.int .i64 (h.c 29),.int .i64 (h.c 30),.int .i64 (h.c 31),.int .i64 (h.c 32),.int .i64 (h.c 33),.int .i64 (h.c 34),.int .i64 (h.c 35),.int .i64 (h.c 36),.int .i64 (h.c 37),.int .i64 (h.c 38),.int .i64 (h.c 39),.int .i64 (h.c 40),.int .i64 (h.c 41),.int .i64 (h.c 42),.int .i64 (h.c 43),.int .i64 (h.c 44),.int .i64 (h.c 45),.int .i64 (h.c 46),.int .i64 (h.c 47),.int .i64 (h.c 48),.int .i64 (h.c 49),.int .i64 (h.c 50),.int .i64 (h.c 51),.int .i64 (h.c 52),.int .i64 (h.c 53),.int .i64 (h.c 54),.int .i64 (h.c 55),.int .i64 (h.c 56),.int .i64 (h.c 57),.int .i64 (h.c 58),.int .i64 (h.c 59),.int .i64 (h.c 60),.int .i64 (h.c 61),.int .i64 (h.c 62),.int .i64 (h.c 63),.int .i64 h.left]
@[reducible] def Hrd.cs (h:Hrd):List SC:=[.v (.int .i64 (h.c 0)),.v (.int .i64 (h.c 1)),.v (.int .i64 (h.c 2)),.v (.int .i64 (h.c 3)),.v (.int .i64 (h.c 4)),.v (.int .i64 (h.c 5)),.v (.int .i64 (h.c 6)),.v (.int .i64 (h.c 7)),.v (.int .i64 (h.c 8)),.v (.int .i64 (h.c 9)),.v (.int .i64 (h.c 10)),.v (.int .i64 (h.c 11)),.v (.int .i64 (h.c 12)),.v (.int .i64 (h.c 13)),.v (.int .i64 (h.c 14)),.v (.int .i64 (h.c 15)),.v (.int .i64 (h.c 16)),.v (.int .i64 (h.c 17)),.v (.int .i64 (h.c 18)),.v (.int .i64 (h.c 19)),.v (.int .i64 (h.c 20)),.v (.int .i64 (h.c 21)),.v (.int .i64 (h.c 22)),.v (.int .i64 (h.c 23)),.v (.int .i64 (h.c 24)),.v (.int .i64 (h.c 25)),.v (.int .i64 (h.c 26)),.v (.int .i64 (h.c 27)),.v (.int .i64 (h.c 28)),.v (.int .i64 (h.c 29)),.v (.int .i64 (h.c 30)),.v (.int .i64 (h.c 31)),.v (.int .i64 (h.c 32)),.v (.int .i64 (h.c 33)),.v (.int .i64 (h.c 34)),.v (.int .i64 (h.c 35)),.v (.int .i64 (h.c 36)),.v (.int .i64 (h.c 37)),.v (.int .i64 (h.c 38)),.v (.int .i64 (h.c 39)),.v (.int .i64 (h.c 40)),.v (.int .i64 (h.c 41)),.v (.int .i64 (h.c 42)),.v (.int .i64 (h.c 43)),.v (.int .i64 (h.c 44)),.v (.int .i64 (h.c 45)),.v (.int .i64 (h.c 46)),.v (.int .i64 (h.c 47)),.v (.int .i64 (h.c 48)),.v (.int .i64 (h.c 49)),.v (.int .i64 (h.c 50)),.v (.int .i64 (h.c 51)),.v (.int .i64 (h.c 52)),.v (.int .i64 (h.c 53)),.v (.int .i64 (h.c 54)),.v (.int .i64 (h.c 55)),.v (.int .i64 (h.c 56)),.v (.int .i64 (h.c 57)),.v (.int .i64 (h.c 58)),.v (.int .i64 (h.c 59)),.v (.int .i64 (h.c 60)),.v (.int .i64 (h.c 61)),.v (.int .i64 (h.c 62)),.v (.int .i64 (h.c 63)),.v (.int .i64 h.left)]
def Hrd.set (h:Hrd) (i:Nat) (x:Int):Hrd:=⟨fun k=>if k=i then x else h.c k,h.left⟩
theorem Hrd.cs_eq (h:Hrd):h.cs=(List.range 64).map (fun i=>SC.v (.int .i64 (h.c i)))++[.v (.int .i64 h.left)]:=rfl
theorem Hrd.take1 (h:Hrd) {i:Nat} (hi:i<64):zih h.cs (0+i*1) 1=some [.v (.int .i64 (h.c i))]:=by
 have hl:h.cs.length=65:=rfl;unfold zih;rw[if_pos (by omega),Hrd.cs_eq];rw[Ybl oE,Y4 oE];rw[Y2 oE];simp
theorem Hrd.fit1 (h:Hrd) {i:Nat} (hi:i<64) (x:Int):znE [SC.v (.int .i64 x)] (0+i*1) 1 h.cs=some (h.set i x).cs:=by
 have hl:h.cs.length=65:=rfl;unfold znE;rw[if_pos ⟨rfl,by omega⟩];congr 1;rw[splice_one _ _ _ (by omega),Hrd.cs_eq,Hrd.cs_eq];rw[List.set_append_left _ _ oE];congr 1;apply Ycy
 ·simp
 ·intro j h1 h2;simp only[List.getElem_set,Yd2,Yds,Hrd.set];by_cases hj:j=i
  ·simp_all
  ·grind
structure TabAt (M:Mem) (p b1 b2:Nat) (a:Option Addr) (n c:Nat) (me age:Int) (nb:List Int) (st:List (Int×Int)) (m:List (Int×Hrd)):Prop where
 self:M.has p 170 [.int .i64 me,.int .i64 age,.slice a n c,.map (some b1),.map (some b2)]
 n1:p≠b1
 n2:p≠b2
 n12:b1≠b2
 nbs:SrcOk M 1 a n (nb.map zi)
 na:∀ q,a=some q→q.block≠b1∧q.block≠b2
 set:MapAt zi zi M b1 st
 hrd:MapAt zi Hrd.v M b2 m
def zr1 (m:List (Int×Hrd)):Prop:=∀ k h,ze m k=some h→∀ i,i<64→0≤h.c i∧h.c i≤16
def byC (m:List (Int×Hrd)) (dest n:Int):Int:=match ze m n with|some h=>min 16 (h.c dest.toNat+1)|none=>16
def zbx (n:Int):Bool:=decide (0≤n)&&decide (n<64)
theorem zoU (n:Int) (M:Mem):CallsM prog 78 [.int .i64 n] M fun v M'=>v = .bool (zbx n)∧M=M':=by
 refine zsI oS ?_;refine brn (fun h=>?_) (fun h=>?_)
 ·(conv=>whnf);exact⟨by first|(simp_all [zbx];done)|(simp_all [zbx];omega),rfl⟩
 ·(conv=>whnf);exact⟨by first|(simp_all [zbx];done)|(simp_all [zbx];omega),rfl⟩
variable {M:Mem} {p b1 b2:Nat} {a:Option Addr} {n c:Nat} {me age:Int} {nb:List Int} {st:List (Int×Int)} {m:List (Int×Hrd)}
theorem zr2 (ht:TabAt M p b1 b2 a n c me age nb st m) (hn:n≤4194304) (x:Int):CallsM prog 120 [ptr p,.int .i64 x] M fun v M'=>v = .bool (decide (x∈nb))∧M=M':=by
 refine zl5 oS ?_;refine zW ht.self ?_;refine(zio a n c x M nb ht.nbs hn).mono ?_;rintro v M' ⟨rfl,rfl⟩;exact⟨rfl,rfl⟩
set_option maxRecDepth 20000 in
theorem zmE (ht:TabAt M p b1 b2 a n c me age nb st m) (hg:zr1 m) (dest x:Int) (hd:0≤dest∧dest<64):CallsM prog 185 [ptr p,.int .i64 dest,.int .i64 x] M fun v M'=>v = .int .i64 (byC m dest x)∧M=M':=by
 refine zmb oS ?_;refine zK ht.self ?_;refine ht.hrd.get zcY x (fun h=>?_) (fun h j hh=>?_)
 ·refine zR ?_;exact⟨by simp[byC,h],rfl⟩
 ·have hgd:=hg x h hh dest.toNat oM;refine zR ?_;refine ob hd ?_;refine on (h.take1 (i:=dest.toNat) oM) ?_;refine zP ?_;exact⟨by simp[byC,hh],rfl⟩
end
section
variable {M:Mem} {p b1 b2:Nat} {a:Option Addr} {n c:Nat} {me age:Int} {nb:List Int} {st:List (Int×Int)} {m:List (Int×Hrd)}
theorem TabAt.le {M':Mem} (ht:TabAt M p b1 b2 a n c me age nb st m) (h:M.le M'):TabAt M' p b1 b2 a n c me age nb st m:=
 ⟨ht.self.le h,ht.n1,ht.n2,ht.n12,ht.nbs.le h,ht.na,ht.set.mono fun o=>h _ o,ht.hrd.mono fun o=>h _ o⟩
def lst (d:Int) (l:List (Int×Hrd)):Int:=l.foldr (fun q x=>min (min 16 (q.2.c d.toNat+1)) x) 16
theorem zEl {d:Int} {l r:List (Int×Hrd)} (h:l.Perm r):lst d l=lst d r:=by
 induction h with
 | nil=>rfl
 | cons q _ ih=>simp only[lst,Yb3] at ih ⊢; rw[ih]
 | swap q r l=>simp only[lst,Yb3];omega
 | trans _ _ h1 h2=>omega
theorem zGQ (d:Int) (l:List (Int×Hrd)):lst d l≤16:=by
 cases l with
 | nil=>exact Yae _
 | cons q l=>simp only[lst,Yb3];omega
def zcZ (me:Int) (st:List (Int×Int)) (m:List (Int×Hrd)) (d:Int):Int:=
 if zbx d then (if d=me then 0 else match ze st d with|some via=>byC m d via|none=>lst d m) else 16
theorem zr3 (ht:TabAt M p b1 b2 a n c me age nb st m) (hg:zr1 m) (d:Int):CallsM prog 121 [ptr p,.int .i64 d] M fun v M'=>v = .int .i64 (zcZ me st m d)∧M.le M':=by
 refine zl6 oS ?_;refine brn_f rfl ?_;refine zJ (zoU d M) ?_;refine brn (fun h=>?_) (fun h=>?_)
 ·(conv=>whnf);exact⟨by simp at h;simp[zcZ,h],Ya _⟩
 have hd:zbx d=true:=by simpa using h
 have hd':0≤d∧d<64:=by simpa[zbx] using hd
 refine on (ht.self.c1 rfl) ?_;refine brn (fun h=>?_) (fun h=>?_)
 ·(conv=>whnf);exact⟨by simp at h;subst h;simp[zcZ,hd],Ya _⟩
 have hne:d≠me:=by simpa using h
 refine zK ht.self ?_;refine ht.set.get zcY d (fun h=>?_) (fun via j hh=>?_)
 ·refine zK ht.self ?_;refine ht.hrd.range fun q bi hbi hI=>?_
  replace hbi:M bi=none:=hbi
  refine zak (σ:=Mem×Int×List (Int×Hrd)) [7] (fun x=>[(7,.int .i64 x.2.1)]) (fun _=>[]) (fun x=>x.1)
   (fun|⟨M1,x,todo⟩=>M.le M1∧Iter zi Hrd.v M1 bi b2 m todo∧x≤16∧min x (lst d todo)=lst d m) (fun x=>x.2.2.length) ⟨_,16,m⟩
   ⟨Ya8 hbi,hI,by omega,by have:=zGQ d m;omega⟩ zS ?_
  rintro ⟨M1,x,todo⟩ ⟨hle,hI1,hx,hl⟩;refine hI1.next (fun h0=>?_) (fun i k todo' o' hperm hI2 hent=>?_)
  ·subst h0;refine zR ?_;refine⟨?_,hle⟩;have:lst d []=16:=rfl
   simp only[zcZ,hd,hne,h,if_true,if_false];congr 1;omega
  ·have hle2:M.le (M1.upd bi o'):=fun b o hb=>by
    rw[Yh _ _ (fun e=>by simp_all)];exact hle _ _ hb
   obtain⟨M2,hM2⟩:=oI (M1.upd bi o');rw[←hM2] at hI2 hent hle2;erw [←hM2];refine zR ?_;refine on hent ?_;refine zJ (zmE (ht.le hle2) hg d i hd') ?_;have hmem:(i,k)∈m:=hI1.todo_sub _ (hperm.mem_iff.2 oS)
   have hget:ze m i=some k:=zbK ht.hrd.nodup hmem;have hby:byC m d i=min 16 (k.c d.toNat+1):=by simp[byC,hget]
   rw[hby];refine⟨⟨M2,min x (min 16 (k.c d.toNat+1)),todo'⟩,⟨hle2,hI2,by omega,?_⟩,by have:=hperm.length_eq;simp at this ⊢; omega,zS⟩;rw[zEl hperm] at hl;simp only[lst,Yb3] at hl ⊢;omega
 ·refine zJ (zmE ht hg d via hd') ?_;exact⟨by simp[zcZ,hd,hne,hh],Ya _⟩
def zhC (me:Int) (nb:List Int) (st:List (Int×Int)) (m:List (Int×Hrd)) (d:Int):Option Int:=
 if zbx d&&decide (d≠me) then (match ze st d with
  | some via=>some via
  | none=>if zcZ me st m d<16 then nb.find? (fun k=>decide (byC m d k=zcZ me st m d)) else none) else none
def zoq (o:Option Int):Value:=match o with|some k => .tuple #[.int .i64 k,.bool true]|none => .tuple #[.int .i64 0,.bool false]
theorem zr4 (ht:TabAt M p b1 b2 a n c me age nb st m) (hg:zr1 m) (hn:n≤4194304) (d:Int):CallsM prog 122 [ptr p,.int .i64 d] M fun v M'=>v=zoq (zhC me nb st m d)∧M.le M':=by
 refine zl7 oS ?_;refine brn_f rfl ?_;refine zJ (zoU d M) ?_;refine brn (fun h=>?_) (fun h=>?_)
 ·(conv=>whnf);exact⟨by simp at h;simp[zhC,h,zoq],Ya _⟩
 have hd:zbx d=true:=by simpa using h
 have hd':0≤d∧d<64:=by simpa[zbx] using hd
 refine on (ht.self.c1 rfl) ?_;refine brn (fun h=>?_) (fun h=>?_)
 ·(conv=>whnf);exact⟨by simp at h;simp[zhC,hd,h,zoq],Ya _⟩
 have hne:d≠me:=by simpa using h
 refine zK ht.self ?_;refine ht.set.get zcY d (fun h=>?_) (fun via j hh=>?_)
 ·refine zM (zr3 ht hg d) ?_;rintro v M1 ⟨rfl,hle⟩;have ht1:=ht.le hle
  have hl:=ht.nbs.maplen;refine zK ht1.self ?_
  refine zak (σ:=Mem×Nat) [45] (fun x=>[(45,.int .i64 x.2)]) (fun _=>[]) (fun x=>x.1)
   (fun|⟨M2,i⟩=>M.le M2∧i≤n∧(zcZ me st m d<16→nb.find? (fun k=>decide (byC m d k=zcZ me st m d))=(nb.drop i).find? (fun k=>decide (byC m d k=zcZ me st m d)))) (fun x=>n - x.2) ⟨M1,0⟩
   ⟨hle,by omega,fun _=>rfl⟩ zS ?_
  rintro ⟨M2,i⟩ ⟨hle2,hi,hf⟩;have ht2:=ht.le hle2
  refine brn (fun g=>?_) (fun g=>?_)
  ·have hi':i<n:=by simpa using g
   obtain⟨hlt,b,o,rfl,hrow⟩:=ht2.nbs.at (i:=i) hi';rw[Y2 hlt] at hf;refine ob oM ?_;refine on hrow ?_;refine brn (fun g1=>?_) (fun g1=>?_)
   ·refine zJ (zmE ht2 hg d _ hd') ?_;refine brn (fun g2=>?_) (fun g2=>?_)
    ·(conv=>whnf);have g1':zcZ me st m d<16:=by simpa using g1
     have:=hf g1';rw[List.find?_cons_of_pos (by omega)] at this;exact⟨by simp[zhC,hd,hne,h,g1',this,zoq],hle2⟩
    ·refine zP ?_;refine⟨⟨M2,i+1⟩,⟨hle2,by omega,fun hc=>?_⟩,by omega,zS⟩;rw[hf hc,List.find?_cons_of_neg (by simp_all)]
   ·have g1':¬zcZ me st m d<16:=by simpa using g1
    refine zP ?_;refine⟨⟨M2,i+1⟩,⟨hle2,by omega,fun hc=>absurd hc g1'⟩,by omega,zS⟩
  ·have hi':i=n:=by have:¬i<n:=by simpa using g
                    omega
   subst hi';refine⟨?_,hle2⟩;rw[Yaf oM] at hf;by_cases hc:zcZ me st m d<16
   ·simp[zhC,hd,hne,h,hc,hf hc,zoq]
   ·simp[zhC,hd,hne,h,hc,zoq]
 ·refine zR ?_;exact⟨by simp[zhC,hd,hne,hh,zoq],Ya _⟩
end
section
variable {M:Mem} {p b1 b2:Nat} {a:Option Addr} {n c:Nat} {me age:Int} {nb:List Int} {st:List (Int×Int)} {m:List (Int×Hrd)}
def ziq (me:Int) (nb:List Int) (st:List (Int×Int)) (m:List (Int×Hrd)) (to d:Int):Int:=if zhC me nb st m d=some to then 16 else zcZ me st m d
theorem zIA {f:Nat→Int} {L:List Int} {i:Nat} (hL:L.length=64) (hi:i<64) (h:∀ j,j<i→L[j]? = some (f j)) (x:Int) (hx:x=f i):∀ j,j<i+1→(L.set i x)[j]? = some (f j):=fun j hj=>by grind
theorem zCs (ht:TabAt M p b1 b2 a n c me age nb st m) (hg:zr1 m) (hn:n≤4194304) (to:Int):CallsM prog 64 [ptr p,.int .i64 to] M fun v M'=>
  (to∉nb∧v = .slice none 0 0∧M'=M)∨(to∈nb∧∃ b L,v = .slice (some ⟨b,0,none⟩) 64 64∧NewSl M 3 1 (some ⟨b,0,none⟩) 64 64 (L.map zi) M'∧L=(List.range 64).map fun (d:Nat)=>ziq me nb st m to d):=by
 refine zk1 oS ?_;refine brn_f rfl ?_;refine zJ (zr2 ht hn to) ?_;refine brn (fun h=>?_) (fun h=>?_)
 ·(conv=>whnf);exact .inl ⟨by simp_all,rfl,rfl⟩
 have hto:to∈nb:=by simpa using h
 refine ob oD ?_;refine new (fun b hb=>?_);replace hb:M b=none:=hb;have hN:NewSl M 3 1 (some ⟨b,0,none⟩) 64 64 ((List.replicate 64 (0:Int)).map zi) _:=Ybc hb 3 1 64 ((List.replicate 64 (0:Int)).map zi) rfl
 obtain⟨M0,hM0⟩:=oI (M.setCells b 3 ((List.replicate 64 (0:Int)).map zi));rw[←hM0] at hN;have hM0':M.setCells b 3 (List.replicate (Int.toNat 64) [Value.int .i64 0]).flatten=M0:=by rw[hM0];rfl
 rw[hM0']
 refine zak (σ:=Nat×Mem×List Int) [20] (fun x=>[(20,.int .i64 x.1)]) (fun _=>[]) (fun x=>x.2.1)
  (fun|⟨i,M1,L⟩=>i≤64∧NewSl M 3 1 (some ⟨b,0,none⟩) 64 64 (L.map zi) M1∧∀ j,j<i→L[j]? = some (ziq me nb st m to j)) (fun x=>64 - x.1) ⟨0,M0,List.replicate 64 0⟩
  ⟨by omega,hN,fun j hj=>by omega⟩ zS ?_
 rintro ⟨i,M1,L⟩ ⟨hi,hN1,hL⟩;have hll:L.length=64:=hN1.src.maplen
 refine brn (fun g=>?_) (fun g=>?_)
 ·have hi':i<64:=by have:=Zd0 g;omega
  refine(zr3 (ht.le hN1.le) hg i).mono ?_;rintro v M2 ⟨rfl,hle2⟩;have hN2:=hN1.up hle2
  obtain⟨b',cs,hbb,_,hcells,hlen,hst⟩:=hN2.store1 (j:=i) oM;cases hbb;refine ob oM ?_;refine on hcells ?_;refine ob hlen ?_;have hN3:=(hst (zcZ me st m i)).1
  obtain⟨M3,hM3⟩:=oI (M2.setCells b 3 (zd cs (0+i*1) [zi (zcZ me st m i)]));rw[←hM3] at hN3;erw [←hM3];refine(zr4 (ht.le hN3.le) hg hn i).mono ?_;rintro v M4 ⟨rfl,hle4⟩;have hN4:=hN3.up hle4
  have done:∀ (M5:Mem) (x:Int),x=ziq me nb st m to i→NewSl M 3 1 (some ⟨b,0,none⟩) 64 64 ((L.set i x).map zi) M5 →
    (i+1≤64∧NewSl M 3 1 (some ⟨b,0,none⟩) 64 64 ((L.set i x).map zi) M5∧∀ j,j<i+1→(L.set i x)[j]? = some (ziq me nb st m to j)):=fun M5 x hx hM5=>⟨by omega,hM5,zIA (f:=fun (j:Nat)=>ziq me nb st m to j) hll hi' hL x hx⟩
  cases hnx:zhC me nb st m i with
  | none=>
   refine zP ?_;exact⟨⟨i+1,M4,_⟩,done M4 _ (by simp[ziq,hnx]) hN4,by omega,zS⟩
  | some k=>
   refine zR ?_;refine brn (fun g1=>?_) (fun g1=>?_)
   ·have e:k=to:=Zd0 g1;subst e;obtain⟨b',cs4,hbb,_,hcells4,hlen4,hst4⟩:=hN4.store1 (j:=i) oM;cases hbb;refine ob oM ?_;refine on hcells4 ?_;refine ob hlen4 ?_;have hN5:=(hst4 16).1
    rw[List.set_set] at hN5;refine zP ?_;exact⟨⟨i+1,_,_⟩,done _ _ (by simp[ziq,hnx]) hN5,by omega,zS⟩
   ·have e:k≠to:=Zd1 g1;refine zP ?_;exact⟨⟨i+1,M4,_⟩,done M4 _ (by simp[ziq,hnx,e]) hN4,by omega,zS⟩
 ·have hi':i=64:=by have:=Zd1 g;omega
  subst hi';refine .inr ⟨hto,b,L,rfl,hN1,?_⟩;apply Yb1;intro j;by_cases hj:j<64
  ·simp_all
  ·simp_all
end
section
@[reducible] def one (b:Nat):Nat→Prop:=fun x=>x=b
variable {M:Mem} {p b1 b2:Nat} {a:Option Addr} {n c:Nat} {me age:Int} {nb:List Int} {st:List (Int×Int)} {m:List (Int×Hrd)}
def zhD (x:Int):Bool := !(decide (x<0)||decide (16<x))
def zfl (l:List Int):Bool:=decide (l.length=64)&&l.all zhD
def zfd (nb:List Int) (x:Int) (l:List Int):Int:=if x∈nb then (if zfl l then 0 else 2) else 4
theorem zEm (ht:TabAt M p b1 b2 a n c me age nb st m) (hn:n≤4194304) (x:Int) (a':Option Addr) (n' c':Nat) (l:List Int) (hs:SrcOk M 1 a' n' (l.map zi)) (hn':n'≤4194304) :
  CallsM prog 198 [ptr p,.int .i64 x,.slice a' n' c'] M fun v M'=>v = .int .i64 (zfd nb x l) ∧
   ((zfd nb x l≠0∧M'=M)∨(zfd nb x l=0∧x∈nb∧zfl l=true∧Mem.keep (one b2) M M'∧∃ h:Hrd,(∀ i,i<64→l[i]? = some (h.c i))∧h.left=age∧TabAt M' p b1 b2 a n c me age nb st (zt m x h)∧h.c=fun i=>l.getD i 0)):=by
 refine zme oS ?_;have hl:=hs.maplen
 refine brn_f rfl ?_;refine zJ (zr2 ht hn x) ?_;refine brn (fun h=>?_) (fun h=>?_)
 ·(conv=>whnf);have:x∉nb:=by simpa using h
  exact⟨by simp[zfd,this],.inl ⟨by simp[zfd,this],rfl⟩⟩
 have hx:x∈nb:=by simpa using h
 refine brn (fun h=>?_) (fun h=>?_)
 ·(conv=>whnf)
  have:¬l.length=64:=by have:¬((n':Int)=64):=by simpa using h
                        omega
  exact⟨by simp[zfd,hx,zfl,this],.inl ⟨by simp[zfd,hx,zfl,this],rfl⟩⟩
 have hlen:n'=64:=by have:((n':Int)=64):=by simpa using h
                     omega
 subst hlen;refine zK ht.self ?_
 refine zak (σ:=Nat×Hrd) [29] (fun q=>[(29,.int .i64 q.1)]) (fun q=>[.live 239 q.2.cs]) (fun _=>M)
  (fun|⟨i,h⟩=>i≤64∧h.left=age∧(∀ j,h.c j=if j<i then l.getD j 0 else 0)∧∀ j,j<i→l[j]? = some (h.c j)∧zhD (h.c j)=true) (fun q=>64 - q.1) ⟨0,⟨fun _=>0,age⟩⟩
  ⟨by omega,rfl,fun j=>by simp,fun j hj=>by omega⟩ zS ?_
 rintro ⟨i,hd⟩ ⟨hi,hleft,hcc,hc⟩;refine brn (fun g=>?_) (fun g=>?_)
 ·have hi':i<64:=by have:=Zd0 g;dsimp only at this;omega
  obtain⟨hlt,b,o,rfl,hrow⟩:=hs.at (i:=i) hi';refine ob (by omega) ?_;refine on hrow ?_
  have bad:zhD l[i]=false→zfd nb x l=2:=fun hb=>by
   have:l.all zhD=false:=by
    rw[List.all_eq_false];exact⟨_,Yai hlt,by simp[hb]⟩
   simp[zfd,hx,zfl,this]
  refine brn (fun g1=>?_) (fun g1=>?_)
  ·(conv=>whnf)
   have hb:=bad (by have:l[i]<0:=by simpa using g1
                    simp[zhD];omega)
   exact⟨by rw[hb],.inl ⟨by omega,rfl⟩⟩
  refine brn (fun g2=>?_) (fun g2=>?_)
  ·(conv=>whnf)
   have hb:=bad (by have:16<l[i]:=by simpa using g2
                    simp[zhD];omega)
   exact⟨by rw[hb],.inl ⟨by omega,rfl⟩⟩
  refine ob (by omega) ?_;refine on (hd.fit1 hi' _) ?_;refine obr (inR_i64 (by omega)) ?_;refine⟨⟨i+1,hd.set i l[i]⟩,⟨by omega,hleft,fun j=>?_,fun j hj=>?_⟩,by omega,zS⟩
  ·simp only[Hrd.set];by_cases e:j=i
   ·simp_all
   ·grind
  by_cases e:j=i
  ·subst e;have h1:¬l[j]<0:=by simpa using g1
   have h2:¬16<l[j]:=by simpa using g2
   exact⟨by simp[Hrd.set,Yb hlt],by simp[Hrd.set,zhD];omega⟩
  ·have:=hc j oM;simpa[Hrd.set,e] using this
 ·have hi':i=64:=by have:=Zd1 g;dsimp only at this;omega
  subst hi'
  have hrt:zfl l=true:=by
   have:l.all zhD=true:=by
    rw[Yaz];intro y hy;obtain⟨j,hj,rfl⟩:=Ybm hy;obtain⟨h1,h2⟩:=hc j oM;rw[Yb hj] at h1;rw[Yb2 h1];exact h2
   simp[zfl,hl,this]
  have he:zfd nb x l=0:=by simp[zfd,hx,hrt]
  refine zW ht.self ?_;refine ht.hrd.put zcY x hd fun q f hm=>?_
  have hfn:hd.c=fun i=>l.getD i 0:=funext fun j=>by simp_all
  refine⟨by rw[he],.inr ⟨he,hx,hrt,Yad _ _ rfl,hd,fun j hj=>(hc j hj).1,hleft,?_,hfn⟩⟩;exact⟨ht.self.upd ht.n2 _,ht.n1,ht.n2,ht.n12,ht.nbs.upd fun q hq=>(ht.na q hq).2,ht.na,ht.set.mono fun o ho=>by rw[Yh _ _ ht.n12];exact ho,hm _⟩
theorem zGR (ht:TabAt M p b1 b2 a n c me age nb st m) (hn:n≤4194304) (x:Int) (a':Option Addr) (n' c':Nat) (l:List Int) (hs:SrcOk M 1 a' n' (l.map zi)) (hn':n'≤4194304) :
  CallsM prog 198 [ptr p,.int .i64 x,.slice a' n' c'] M fun v M'=>v = .int .i64 (zfd nb x l) ∧
   ((zfd nb x l≠0∧M'=M)∨(zfd nb x l=0∧x∈nb∧zfl l=true∧Mem.keep (one b2) M M'∧∃ h:Hrd,(∀ i,i<64→l[i]? = some (h.c i))∧h.left=age∧TabAt M' p b1 b2 a n c me age nb st (zt m x h))):=by
 refine(zEm ht hn x a' n' c' l hs hn').mono ?_;rintro v M' ⟨h1,h2|⟨h3,h4,h5,h6,h,h7,h8,h9,_⟩⟩
 ·simp_all
 ·grind
def zor (me:Int):Int→List Int→Bool
 | _,[]=>true
 | last,x::r=>(zbx x && !decide (x=me) && !decide (x≤last))&&zor me x r
def zg0 (me:Int) (nb:List Int) (age:Int):Int:=if zbx me && !decide (age<1) && !decide (64<age) then (if zor me (-1) nb then 0 else 2) else 1
theorem zCt (me age:Int) (a:Option Addr) (n c:Nat) (nb:List Int) (hs:SrcOk M 1 a n (nb.map zi)) (hn:n≤4194304) :
  CallsM prog 37 [.int .i64 me,.slice a n c,.int .i64 age] M fun v M'=>
   (zg0 me nb age≠0∧v = .tuple #[.pointer none,.int .i64 (zg0 me nb age)]∧M'=M) ∨
   (zg0 me nb age=0∧∃ p b1 b2 a' c',v = .tuple #[ptr p,.int .i64 0]∧M p=none∧M b1=none∧M b2=none∧(∀ q,a'=some q→M q.block=none∧q.block≠p)∧M.le M'∧TabAt M' p b1 b2 a' n c' me age nb [] []):=by
 refine zuG oS ?_;have hl:=hs.maplen
 refine zJ (zoU me M) ?_;have e1:(zbx me && !decide (age<1) && !decide (64<age))=false→zg0 me nb age=1:=fun h=>by simp only[zg0,h];rfl
 refine brn (fun h=>?_) (fun h=>?_)
 ·have e:=e1 (by simp_all);exact .inl ⟨by omega,by rw[e],rfl⟩
 refine brn (fun h1=>?_) (fun h1=>?_)
 ·have e:=e1 (by simp_all);exact .inl ⟨by omega,by rw[e],rfl⟩
 refine brn (fun h2=>?_) (fun h2=>?_)
 ·have e:=e1 (by simp_all);exact .inl ⟨by omega,by rw[e],rfl⟩
 have e2:zg0 me nb age=if zor me (-1) nb then 0 else 2:=by
  simp only[Ybq] at h;simp only[zg0,h,h1,h2];rfl
 refine zem (σ:=Nat×Int) [24,8] (fun q=>[(24,.int .i64 q.1),(8,.int .i64 q.2)]) (fun|⟨i,last⟩=>i≤n∧zor me (-1) nb=zor me last (nb.drop i)) (fun q=>n - q.1) ⟨0, -1⟩
  ⟨by omega,rfl⟩ zS ?_
 rintro ⟨i,last⟩ ⟨hi,hok⟩;refine brn (fun g=>?_) (fun g=>?_)
 ·have hi':i<n:=by have:=Zd0 g;dsimp only at this;omega
  obtain⟨hlt,b,o,rfl,hrow⟩:=hs.at (i:=i) hi';rw[Y2 hlt,zor] at hok;generalize nb[i]=y at *;have bad:(zbx y && !decide (y=me) && !decide (y≤last))=false→zg0 me nb age=2:=fun hb=>by simp_all
  refine ob (by omega) ?_;refine on hrow ?_;refine zJ (zoU y M) ?_;refine brn (fun g1=>?_) (fun g1=>?_)
  ·have e:=bad (by simp_all);exact .inl ⟨by omega,by rw[e],rfl⟩
  refine brn (fun g2=>?_) (fun g2=>?_)
  ·have e:=bad (by simp_all);exact .inl ⟨by omega,by rw[e],rfl⟩
  refine brn (fun g3=>?_) (fun g3=>?_)
  ·have e:=bad (by simp_all);exact .inl ⟨by omega,by rw[e],rfl⟩
  refine obr (inR_i64 (by omega)) ?_;refine⟨⟨i+1,y⟩,⟨by omega,?_⟩,by omega,zS⟩;rw[hok];simp only[Ybq] at g1;simp only[g1,g2,g3];rfl
 ·have hi':i=n:=by have:=Zd1 g;dsimp only at this;omega
  subst hi';rw[Yaf oM] at hok;have e0:zg0 me nb age=0:=by rw[e2,hok];rfl
  refine new (fun b0 hb0=>?_);replace hb0:M b0=none:=hb0;have hN:NewSl M 3 1 _ 0 0 (([]:List Int).map zi) _:=Ybc hb0 3 1 0 [] rfl
  obtain⟨M1,hM1⟩:=oI (M.setCells b0 3 []);rw[←hM1] at hN;erw [←hM1];refine zb2 (hs.le hN.le) ?_;refine zb8 M _ hN oM (by simp[maxLen];omega) oC fun a2 c2 M2 hN2=>?_
  rw[Ybz,Yaa,Yap] at hN2;refine new (fun b1 hb1=>?_);replace hb1:M2 b1=none:=hb1;refine new (fun b2 hb2=>?_);replace hb2:(M2.upd b1 (.map #[] 0)) b2=none:=hb2;have h21:b2≠b1:=fun e=>by subst e;rw[Yam] at hb2;cases hb2
  rw[Yh _ _ h21] at hb2;refine new (fun p hp=>?_);replace hp:((M2.upd b1 (.map #[] 0)).upd b2 (.map #[] 0)) p=none:=hp;have hp2:p≠b2:=fun e=>by subst e;rw[Yam] at hp;cases hp
  rw[Yh _ _ hp2] at hp;have hp1:p≠b1:=fun e=>by subst e;rw[Yam] at hp;cases hp
  rw[Yh _ _ hp1] at hp
  have none':∀ x,M2 x=none→M x=none:=fun x hx=>by
   cases hM:M x with
   | none=>rfl
   | some o=>rw[hN2.le _ _ hM] at hx;cases hx
  have hle:M2.le (((M2.upd b1 (.map #[] 0)).upd b2 (.map #[] 0)).setCells p 170 [.int .i64 me,.int .i64 age,.slice a2 i c2,.map (some b1),.map (some b2)]):=
   Yc (Ya8 hb1) (Yc (Ya8 (by rw[Yh _ _ h21];exact hb2)) (Yw (by rw[Yh _ _ hp2,Yh _ _ hp1];exact hp)))
  rw[Yap];refine .inr ⟨e0,p,b1,b2,a2,c2,rfl,none' _ hp,none' _ hb1,none' _ hb2,fun q hq=>⟨(hN2.block hq).1,fun e=>by obtain⟨_,cs,hh⟩:=hN2.block hq;rw[e] at hh;unfold Mem.has at hh;rw[hp] at hh;cases hh⟩,Yc hN2.le hle,?_⟩;refine⟨Yg,hp1,hp2,Ne.symm h21,hN2.src.le hle,fun q hq=>?_,?_,?_⟩
  ·obtain⟨_,cs,hh⟩:=hN2.block hq;exact⟨fun e=>(by rw[e] at hh;unfold Mem.has at hh;rw[hb1] at hh;cases hh),fun e=>(by rw[e] at hh;unfold Mem.has at hh;rw[hb2] at hh;cases hh)⟩
  ·refine(Ydq M2 b1).mono fun o ho=>?_
   unfold Mem.setCells;rw[Yh _ _ (Ne.symm hp1),Yh _ _ (Ne.symm h21)];exact ho
  ·refine(Ydq (M2.upd b1 (.map #[] 0)) b2).mono fun o ho=>?_
   unfold Mem.setCells;rw[Yh _ _ (Ne.symm hp2)];exact ho
end
section
variable {p b:Nat} {wait next:Int} {m:List (IdT×Known)} {M:Mem}
theorem DeskAt.mono {M':Mem} (h:DeskAt M p b wait next m) (h':∀ c o,c=p∨c=b→M c=some o→M' c=some o):DeskAt M' p b wait next m:=
 ⟨h' _ _ (.inl rfl) h.self,h.ne,h.map.mono fun o=>h' _ _ (.inr rfl)⟩
theorem DeskAt.le {M':Mem} (h:DeskAt M p b wait next m) (hle:M.le M'):DeskAt M' p b wait next m:=h.mono fun c o _=>hle c o
theorem DeskAt.upd (h:DeskAt M p b wait next m) {x:Obj} {m':List (IdT×Known)} (hm:MapAt IdT.v Known.v (M.upd b x) b m'):DeskAt (M.upd b x) p b wait next m':=
 ⟨by have:=h.self;unfold Mem.has at this ⊢; rw[Yh _ _ h.ne];exact this,h.ne,hm⟩
def zdv (m:List (IdT×Known)) (n k:Int) (i:IdT):Bool:=match ze m i with|some x=>(decide (x.waits=0)&&decide (x.to=n))&&decide (x.n=k)|none=>false
def zr5 (m:List (IdT×Known)) (n k:Int) (i:IdT):List (IdT×Known):=if zdv m n k i then zaO m i else m
set_option maxRecDepth 10000 in
theorem zAv (hd:DeskAt M p b wait next m) (n k:Int) (i:IdT):CallsM prog 195 [ptr p,.int .i64 n,.int .i64 k,i.v] M fun v M'=>
  v = .bool (zdv m n k i)∧DeskAt M' p b wait next (zr5 m n k i)∧Mem.keep (one b) M M':=by
 refine zrI oS ?_;refine zM (zAu p b wait next m M hd n i) ?_;rintro v M' ⟨rfl,rfl⟩;refine zR ?_;refine brn (fun h=>?_) (fun h=>?_)
 ·refine zW hd.self ?_;refine hd.map.get zfC i (fun g=>?_) (fun x j g=>?_)
  ·simp[zgs,g] at h
  ·refine zR ?_;have h':x.waits=0∧x.to=n:=by simpa[zgs,g] using h
   refine brn (fun h1=>?_) (fun h1=>?_)
   ·have hok:zdv m n k i=true:=by simp_all [zdv]
    refine zW hd.self ?_;refine hd.map.del zfC i fun p f hm=>?_
    refine zR ?_;refine⟨by simp_all,?_,Yad _ _ rfl⟩;rw[zr5,hok,if_pos rfl];exact hd.upd (hm M)
   ·have hok:zdv m n k i=false:=by simp_all [zdv]
    refine zR ?_;refine⟨by simp_all,?_,Yas _ _⟩;rw[zr5,hok];exact hd
 ·have hok:zdv m n k i=false:=by unfold zdv;unfold zgs at h;split<;>simp_all
  refine zR ?_;refine⟨by rw[hok],?_,Yas _ _⟩;rw[zr5,hok];exact hd
def zj1 (m:List (IdT×Known)) (wait n k:Int) (i:IdT):List (IdT×Known):=if zdv m n k i then zt m i ⟨-1,0,0,wait⟩ else m
set_option maxRecDepth 10000 in
theorem zuU (hd:DeskAt M p b wait next m) (n k:Int) (i:IdT):CallsM prog 197 [ptr p,.int .i64 n,.int .i64 k,i.v] M fun v M'=>
  v = .bool (zdv m n k i)∧DeskAt M' p b wait next (zj1 m wait n k i)∧Mem.keep (one b) M M':=by
 refine zn4 oS ?_;refine zM (zAu p b wait next m M hd n i) ?_;rintro v M' ⟨rfl,rfl⟩;refine zR ?_;refine brn (fun h=>?_) (fun h=>?_)
 ·refine zW hd.self ?_;refine hd.map.get zfC i (fun g=>?_) (fun x j g=>?_)
  ·simp[zgs,g] at h
  ·refine zR ?_;have h':x.waits=0∧x.to=n:=by simpa[zgs,g] using h
   refine brn (fun h1=>?_) (fun h1=>?_)
   ·have hok:zdv m n k i=true:=by simp_all [zdv]
    refine zQ hd.self ?_;refine hd.map.put zfC i ⟨-1,0,0,wait⟩ fun p f hm=>?_
    refine zR ?_;refine⟨by simp_all,?_,Yad _ _ rfl⟩;rw[zj1,hok,if_pos rfl];exact hd.upd (hm M)
   ·have hok:zdv m n k i=false:=by simp_all [zdv]
    refine zR ?_;refine⟨by simp_all,?_,Yas _ _⟩;rw[zj1,hok];exact hd
 ·have hok:zdv m n k i=false:=by unfold zdv;unfold zgs at h;split<;>simp_all
  refine zR ?_;refine⟨by rw[hok],?_,Yas _ _⟩;rw[zj1,hok];exact hd
set_option maxRecDepth 10000 in
theorem zt8 (hd:DeskAt M p b wait next m) (i:IdT):CallsM prog 216 [ptr p,i.v] M fun v M'=>v = .bool (zop m i)∧M=M':=by
 refine zsQ oS ?_;refine zW hd.self ?_;refine hd.map.get zfC i (fun h=>?_) (fun x j h=>?_)
 ·refine zR ?_;exact⟨by simp[zop,h],rfl⟩
 ·refine zR ?_;exact⟨by simp[zop,h],rfl⟩
def zr6 (m:List (IdT×Known)) (i:IdT):List (IdT×Known):=if zop m i then zaO m i else m
set_option maxRecDepth 10000 in
theorem zxV (hd:DeskAt M p b wait next m) (i:IdT):CallsM prog 138 [ptr p,i.v] M fun v M'=>
  v = .bool (zop m i)∧DeskAt M' p b wait next (zr6 m i)∧Mem.keep (one b) M M':=by
 refine zqu oS ?_;refine zM (zt8 hd i) ?_;rintro v M' ⟨rfl,rfl⟩;refine zR ?_;refine brn (fun h=>?_) (fun h=>?_)
 ·refine zW hd.self ?_;refine hd.map.del zfC i fun p f hm=>?_
  refine zR ?_;refine⟨rfl,?_,Yad _ _ rfl⟩;rw[zr6,h,if_pos rfl];exact hd.upd (hm M)
 ·refine zR ?_;refine⟨rfl,?_,Yas _ _⟩;rw[zr6,h];exact hd
end
section
theorem zAw (wait:Int) (M:Mem):CallsM prog 40 [.int .i64 wait] M fun v M'=>
  ((wait<1∨64<wait)∧v = .tuple #[.pointer none,.int .i64 1]∧M=M') ∨
  ((1≤wait∧wait≤64)∧∃ p b,v = .tuple #[ptr p,.int .i64 0]∧M p=none∧M b=none∧M.le M'∧DeskAt M' p b wait 0 []):=by
 refine zzM oS ?_;refine brn (fun h=>?_) (fun h=>?_)
 ·(conv=>whnf);exact .inl ⟨by simp_all,rfl,rfl⟩
 refine brn (fun h1=>?_) (fun h1=>?_)
 ·(conv=>whnf);exact .inl ⟨by simp_all,rfl,rfl⟩
 refine new (fun b hb=>?_);replace hb:M b=none:=hb;refine new (fun p hp=>?_);replace hp:(M.upd b (.map #[] 0)) p=none:=hp;have hne:p≠b:=fun e=>by subst e;rw[Yam] at hp;cases hp
 rw[Yh _ _ hne] at hp;refine .inr ⟨by simp_all,p,b,rfl,hp,hb,?_,?_⟩
 ·exact Yc (Ya8 hb) (Yw (by rw[Yh _ _ hne];exact hp))
 ·refine⟨Yg,hne,?_⟩;refine(Ydq M b).mono fun o ho=>?_
  unfold Mem.setCells;rw[Yh _ _ (Ne.symm hne)];exact ho
end
section
structure zcO where
 id:IdT
 data:List UInt8
deriving DecidableEq
def MsgR (M:Mem) (cs:List Value) (m:zcO):Prop:=∃ p n k,cs=[.int .i64 m.id.o,.int .i64 m.id.d,.int .i64 m.id.e,.int .i64 m.id.c,.slice p n k]∧SrcOk M 1 p n (m.data.map zc)∧n≤2097152
theorem MsgR.le {M M':Mem} {cs:List Value} {m:zcO} (h:MsgR M cs m) (hle:M.le M'):MsgR M' cs m:=by
 obtain⟨p,n,k,h1,h2,h3⟩:=h;exact⟨p,n,k,h1,h2.le hle,h3⟩
structure zgM where
 to:Int
 n:Int
 msg:zcO
deriving DecidableEq
def OfferR (S:Mem) (M:Mem) (cs:List Value) (x:zgM):Prop:=∃ p n k,cs=[.int .i64 x.to,.int .i64 x.n,.int .i64 x.msg.id.o,.int .i64 x.msg.id.d,.int .i64 x.msg.id.e,.int .i64 x.msg.id.c,.slice p n k] ∧
 Wr M 5 1 p n k (x.msg.data.map zc)∧n≤2097152∧∀ a,p=some a→S a.block=none
theorem OfferR.le {S M M':Mem} {cs:List Value} {m:zgM} (h:OfferR S M cs m) (hle:M.le M'):OfferR S M' cs m:=by
 obtain⟨p,n,k,h1,h2,h3,h4⟩:=h;exact⟨p,n,k,h1,h2.le hle,h3,h4⟩
structure zlG where
 m:List (IdT×Known)
 next:Int
 out:List zgM
def zcq (via:List Int) (i:IdT):Int:=via.getD i.d.toNat 0
def zbt (via up:List Int) (s:zlG) (x:zcO):zlG:=
 if (0≤x.id.d∧x.id.d<64)∧zcq via x.id∈up∧ze s.m x.id=none then
  ⟨zt s.m x.id ⟨zcq via x.id,s.next,0,0⟩,(s.next+1) % 65536,s.out++[⟨zcq via x.id,s.next,x⟩]⟩ else s
def zeU (m:List (IdT×Known)) (next:Int) (held:List zcO) (via up:List Int):zlG:=held.foldl (zbt via up) ⟨m,next,[]⟩
theorem zuV {via up:List Int} {s:zlG} {x:zcO} (h:0≤s.next∧s.next≤65535):0≤(zbt via up s x).next∧(zbt via up s x).next≤65535:=by
 unfold zbt;split
 ·grind
 ·exact h
variable {p b:Nat} {wait next:Int} {m:List (IdT×Known)} {M:Mem}
theorem DeskAt.setNext (h:DeskAt M p b wait next m) (next':Int):DeskAt (M.setCells p 177 [.int .i64 wait,.int .i64 next',.map (some b)]) p b wait next' m:=
 ⟨Yg,h.ne,h.map.mono fun o ho=>by unfold Mem.setCells;rw[Yh _ _ (Ne.symm h.ne)];exact ho⟩
theorem DeskAt.here (h:DeskAt M p b wait next m) {x:Nat} (hx:M x=none):x≠p∧x≠b:=by
 constructor
 ·rintro rfl;have:=h.self;unfold Mem.has at this;rw[hx] at this;cases this
 ·rintro rfl;obtain⟨_,_,h1,_⟩:=h.map;rw[hx] at h1;cases h1
@[reducible] def ztc (p b:Nat):Nat→Prop:=fun x=>x=p∨x=b
set_option maxRecDepth 10000 in
theorem zwl (M0:Mem) (hd:DeskAt M p b wait next m) (hn:0≤next∧next≤65535) (hp0:M0 p=none) (hb0:M0 b=none) (hM0:M0.le M) (a1 a2 a3:Option Addr) (n1 n2 n3 c1 c2 c3:Nat) (held:List zcO) (via up:List Int)
  (h1:Elems M0 5 a1 n1 (MsgR M0) held) (h2:SrcOk M0 1 a2 n2 (via.map zi)) (h3:SrcOk M0 1 a3 n3 (up.map zi)) (hv:n2=64) (hn1:n1≤2097152) (hn3:n3≤2097152) :
  CallsM prog 137 [ptr p,.slice a1 n1 c1,.slice a2 n2 c2,.slice a3 n3 c3] M fun v M'=>∃ a c,v = .slice a (zeU m next held via up).out.length c ∧
   DeskAt M' p b wait (zeU m next held via up).next (zeU m next held via up).m∧NewEls (M.minus (ztc p b)) 267 7 a (zeU m next held via up).out.length c (OfferR M M') (zeU m next held via up).out M':=by
 refine zqt oS ?_;subst hv;have hl:=h1.len
 refine zR ?_;have hMb:M b≠none:=by obtain⟨_,_,h,_⟩:=hd.map;rw[h];simp
 have hMp:M p≠none:=by have:=hd.self;unfold Mem.has at this;rw[this];simp
 let st (i:Nat):zlG:=(held.take i).foldl (zbt via up) ⟨m,next,[]⟩
 have hst:∀ i (hi:i<held.length),st (i+1)=zbt via up (st i) held[i]:=fun i hi=>by
  simp only[st,Y1,Yb hi,Ya0];rfl
 have hfin:st n1=zeU m next held via up:=by simp only[st,zeU];rw[Yf oM]
 have hout':∀ i,(st i).out.length≤i:=by
  intro i
  induction i with
  | zero=>simp[st]
  | succ i ih=>
   by_cases h:i<held.length
   ·rw[hst i h];unfold zbt;split
    ·simp;omega
    ·omega
   ·grind
 refine zak (σ:=Nat×Option Addr×Nat×Nat×Mem) [24,9] (fun|⟨i,a,N,c,_⟩=>[(24,.int .i64 i),(9,.slice a N c)]) (fun _=>[]) (fun x=>x.2.2.2.2)
  (fun|⟨i,a,N,c,M1⟩=>i≤n1∧(0≤(st i).next∧(st i).next≤65535)∧DeskAt M1 p b wait (st i).next (st i).m ∧
   NewEls (M.minus (ztc p b)) 267 7 a N c (OfferR M M1) (st i).out M1∧(∀ x,a=some x→x.block≠p∧x.block≠b)) (fun x=>n1 - x.1)
  ⟨0,none,0,0,M⟩ ⟨by omega,hn,hd,?_,by simp⟩ zS ?_
 ·exact(NewEls.nil M _ _ _).mono (Yab _ _)
 rintro ⟨i,a,N,c,M1⟩ ⟨hi,hnx,hd1,hout,hab⟩;have hS:∀ x,ztc p b x→M0 x=none:=fun x hx=>by rcases hx with rfl|rfl<;>assumption
 have hle1:M0.le M1:=Yc (Ybs hM0 hS) hout.le;have hk1:Mem.keep (ztc p b) M M1:=Ycc.2 hout.le
 refine brn (fun h=>?_) (fun h=>?_)
 ·simp only[decide_eq_true_eq] at h;obtain⟨hlt,b0,o0,cs,rfl,hrows,hrow,hcs,q,nq,kq,rfl,hq,hnq⟩:=h1.at (i:=i) oD oM;have hrow':=Ycg hle1 hrow
  have hst1:=hst i hlt;generalize hx:held[i]=x at *;refine ob oM ?_;refine on hrow' ?_;have hskip:¬((0≤x.id.d∧x.id.d<64)∧zcq via x.id∈up∧ze (st i).m x.id=none)→st (i+1)=st i:=fun h=>by rw[hst1,zbt,if_neg h]
  have hinv:st (i+1)=st i→i+1≤n1∧(0≤(st (i+1)).next∧(st (i+1)).next≤65535)∧DeskAt M1 p b wait (st (i+1)).next (st (i+1)).m ∧
    NewEls (M.minus (ztc p b)) 267 7 a N c (OfferR M M1) (st (i+1)).out M1∧(∀ x,a=some x→x.block≠p∧x.block≠b):=fun e=>by rw[e];exact⟨by omega,hnx,hd1,hout,hab⟩
  refine brn (fun g1=>?_) (fun g1=>?_)
  ·simp only[decide_eq_true_eq] at g1;have e:=hskip oM
   refine zP ?_;exact⟨⟨i+1,a,N,c,M1⟩,hinv e,by omega,zS⟩
  simp only[decide_eq_false_iff_not] at g1;refine brn (fun g2=>?_) (fun g2=>?_)
  ·simp only[decide_eq_true_eq] at g2;have e:=hskip oM
   refine zP ?_;exact⟨⟨i+1,a,N,c,M1⟩,hinv e,by omega,zS⟩
  simp only[decide_eq_false_iff_not] at g2;obtain⟨hlt2,b2,o2,rfl,hrow2⟩:=(h2.le hle1).at (i:=x.id.d.toNat) oM;have hto:via[x.id.d.toNat]=zcq via x.id:=by simp[zcq,hlt2]
  refine ob oM ?_;refine on hrow2 ?_;rw[hto];refine(zio _ _ _ _ _ up (h3.le hle1) oM).mono ?_;rintro v M' ⟨rfl,rfl⟩;refine brn (fun g3=>?_) (fun g3=>?_)
  ·have e:=hskip (fun hh=>by simp_all);refine zP ?_;exact⟨⟨i+1,a,N,c,M1⟩,hinv e,by omega,zS⟩
  have g3':zcq via x.id∈up:=by simpa using g3
  refine zK hd1.self ?_;refine hd1.map.get zfC x.id (fun g4=>?_) (fun y j g4=>?_)
  rotate_left
  ·refine zR ?_;have e:=hskip (fun hh=>by grind)
   refine zP ?_;exact⟨⟨i+1,a,N,c,M1⟩,hinv e,by omega,zS⟩
  have hgo:st (i+1)=⟨zt (st i).m x.id ⟨zcq via x.id,(st i).next,0,0⟩,((st i).next+1) % 65536,(st i).out++[⟨zcq via x.id,(st i).next,x⟩]⟩:=by
   rw[hst1,zbt,if_pos ⟨by omega,g3',g4⟩]
  clear hskip hinv;refine zP ?_;refine on hrow2 ?_;refine zR ?_;rw[hto];refine zQ hd1.self ?_;refine hd1.map.put zfC x.id ⟨zcq via x.id,(st i).next,0,0⟩ fun p' f hm=>?_
  have hd2:=hd1.upd (hm M1);have hk2:Mem.keep (one b) M1 (M1.upd b (zdg p' f x.id.v (Known.v ⟨zcq via x.id,(st i).next,0,0⟩))):=Yad _ _ rfl
  obtain⟨M2,hM2⟩:∃ M2,M2=M1.upd b (zdg p' f x.id.v (Known.v ⟨zcq via x.id,(st i).next,0,0⟩)):=⟨_,rfl⟩
  rw[←hM2] at hd2 hk2;erw [←hM2];have hle2:M0.le M2:=hk2.le hle1 (fun x hx=>by simp_all)
  have hout2:=(hout.keep hk2 (fun x hx=>by cases hx;exact Yaq (.inr rfl)) (fun q hq e=>(hab q hq).2 e)).imp (R':=OfferR M M2) (fun cs y _ ⟨p1,n1,k1,e1,e2,e3,e4⟩=>⟨p1,n1,k1,e1,e2.mono fun q o hq ho=>hk2 _ _ (fun e=>by simp_all) ho,e3,e4⟩);refine zW hd2.self ?_;refine new (fun b3 hb3=>?_);replace hb3:M2 b3=none:=hb3;refine zR ?_;have hN3:=Ybc hb3 5 1 0 [] rfl
  refine zb2 (hq.le (Yc hle2 hN3.le)) ?_;refine zb8 M2 _ hN3 oM (by simp[maxLen];omega) (by simp[zc,Value.oneCell']) fun a4 c4 M4 hN4=>?_
  refine zR ?_
  first|refine ob hN4.le ?_|refine grow_same hN4.le ?_
  refine zR ?_;have hd4:=hd2.le hN4.le
  have hout4:=(hout2.up hN4.le).imp (R':=OfferR M M4) (fun cs y _ h=>h.le hN4.le)
  have hofR:OfferR M M4 [.int .i64 (zcq via x.id),.int .i64 (st i).next,.int .i64 x.id.o,.int .i64 x.id.d,.int .i64 x.id.e,.int .i64 x.id.c,.slice a4 (0+nq) c4] ⟨zcq via x.id,(st i).next,x⟩:=
   ⟨_,_,_,rfl,by simpa using hN4.wr,by omega,fun q hq=>(by
    have hq4:=(hN4.block hq).1;have hne:=hd2.here hq4
    cases hMq:M q.block with
    | none=>rfl
    | some o=>have:=hk2 _ _ hne.2 (hk1 _ _ (fun e=>e.elim hne.1 hne.2) hMq);rw[hq4] at this;cases this)⟩
  refine zKH _ hout4 ⟨zcq via x.id,(st i).next,x⟩ hofR rfl (by have:=hout' i;have:=hout.len;omega) (by have:=hout' i;have:=hout.len;simp[maxLen];omega) oC fun a5 c5 M5 hN5 hk5=>?_
  have hd5:DeskAt M5 p b wait (st i).next (zt (st i).m x.id ⟨zcq via x.id,(st i).next,0,0⟩):=hd4.mono fun c' o hc ho=>hk5 _ _ (fun ⟨q,hq,e⟩=>by simp_all) ho
  refine zR ?_;refine on (hd5.self.c1 rfl) ?_;refine obr (inR_i64 oM) ?_;refine ob oD ?_;refine on hd5.self.cells ?_;refine ob oS ?_;refine zP ?_;have hmod:((st i).next+1).tmod 65536=((st i).next+1) % 65536:=Yb6 oM
  have hd6:=hd5.setNext (((st i).next+1) % 65536)
  have hab5:∀ q,a5=some q→q.block≠p∧q.block≠b:=fun q hq=>by
   obtain⟨_,cs5,hcs5⟩:=hN5.block hq;constructor
   ·intro e;rw[e] at hcs5;have:=(hcs5.inj hd5.self).1;revert this;decide
   ·intro e;rw[e] at hcs5;obtain⟨_,_,h1,_⟩:=hd5.map;unfold Mem.has at hcs5;rw[hcs5] at h1;simp[zbf] at h1
  refine⟨⟨i+1,a5,N+1,c5,M5.setCells p 177 [.int .i64 wait,.int .i64 (((st i).next+1) % 65536),.map (some b)]⟩,⟨by omega,?_,?_,?_,?_⟩,by omega,(by repeat' first|exact True.intro|refine⟨rfl,?_⟩),trivial,?_,rfl⟩
  ·grind
  ·grind
  ·rw[hgo];have hk6:Mem.keep (one p) M5 (M5.setCells p 177 [.int .i64 wait,.int .i64 (((st i).next+1) % 65536),.map (some b)]):=by unfold Mem.setCells;exact Yad (S:=one p) _ _ rfl
   refine(hN5.keep hk6 (fun x hx=>by cases hx;exact Yaq (.inl rfl)) (fun q hq e=>(hab5 q hq).1 e)).imp fun cs y _ ⟨p1,n1,k1,e1,e2,e3,e4⟩=>⟨p1,n1,k1,e1,e2.mono fun q o hq ho=>?_,e3,e4⟩
   refine hk6 _ _ (fun e=>hMp (by simp_all)) (hk5 _ _ (fun ⟨q',hq',e'⟩=>?_) ho);obtain⟨_,cs',h'⟩:=hout4.block hq';obtain⟨cs'',h''⟩:=e2.block hq;rw[e'] at h';have:=(h'.inj h'').1
   revert this;decide
  ·exact hab5
  ·rw[hmod];exact Ya _
 ·simp only[decide_eq_false_iff_not] at h;have hin:i=n1:=by omega
  subst hin;rw[hfin] at hout hd1;have hlen:=hout.len
  refine⟨a,c,by rw[hlen],hd1,?_⟩;rw[hlen];exact hout
end
section
def zd7 (k:Known):Option Known:=
 if 0<k.waits then (if k.waits - 1=0∧(k.ticks=0∨k.ticks=64) then none else some { k with waits:=k.waits - 1 })
 else (if k.waits=0∧(k.ticks+1=0∨k.ticks+1=64) then none else some { k with ticks:=k.ticks+1 })
structure KOk (k:Known):Prop where
 w0:0≤k.waits
 w1:k.waits≤64
 t0:0≤k.ticks
 t1:k.ticks<64
def zKR (m:List (IdT×Known)):Prop:=∀ i k,ze m i=some k→KOk k
theorem zEn {k k':Known} (h:KOk k) (ht:zd7 k=some k'):KOk k':=by
 obtain⟨h1,h2,h3,h4⟩:=h;unfold zd7 at ht;split at ht<;>split at ht<;>cases ht<;>exact⟨by grind,by grind,by simp only;omega,by grind⟩
theorem Mem.keep_new {S:Nat→Prop} {M M1:Mem} (h:Mem.keep S M M1) {b:Nat} (hb:M b=none) (o:Obj):Mem.keep S M (M1.upd b o):=fun c x hn hc=>by
 have hne:c≠b:=fun e=>by simp_all
 rw[Yh _ _ hne];exact h c x hn hc
variable {p b:Nat} {wait next:Int} {m:List (IdT×Known)} {M:Mem}
theorem zxW (hd:DeskAt M p b wait next m) (hk:zKR m):CallsM prog 61 [ptr p] M fun v M'=>
  v = .int .i64 0∧Mem.keep (one b) M M'∧∃ m',DeskAt M' p b wait next m'∧∀ i,ze m' i=(ze m i).bind zd7:=by
 refine zqr oS ?_;refine zK hd.self ?_;refine hd.map.range fun q b2 hb2 hI=>?_
 replace hb2:M b2=none:=hb2;have hpM:M p≠none:=by have:=hd.self;unfold Mem.has at this;rw[this];simp
 have hp2:p≠b2:=fun e=>hpM (e▸hb2)
 refine zak (σ:=Mem×List (IdT×Known)×List (IdT×Known)) [] (fun _=>[]) (fun _=>[]) (fun x=>x.1)
  (fun|⟨M1,cur,todo⟩=>Mem.keep (one b) M M1∧M1.has p 177 [.int .i64 wait,.int .i64 next,.map (some b)]∧Iter IdT.v Known.v M1 b2 b cur todo∧(todo.map (·.1)).Nodup ∧
   ∀ i,ze cur i=(match ze todo i with|some k=>some k|none=>(ze m i).bind zd7)∧(∀ k,ze todo i=some k→ze m i=some k)) (fun x=>x.2.2.length) ⟨_,m,m⟩
  ⟨Mem.keep_new (Yas _ _) hb2 _,by unfold Mem.has;rw[Yh _ _ hp2];exact hd.self,hI,hd.map.nodup,fun i=>⟨by grind,fun k h=>h⟩⟩ zS ?_
 rintro ⟨M1,cur,todo⟩ ⟨hkp,hself,hI1,hnd,hcur⟩;refine hI1.next (fun h0=>?_) (fun i k todo' o' hperm hI2 hent=>?_)
 ·subst h0;refine zR ?_;refine⟨rfl,hkp,cur,⟨hself,hd.ne,hI1.at⟩,fun i=>(hcur i).1⟩
 ·have hnd':((i,k)::todo').map (·.1) |>.Nodup:=(hperm.map (·.1)).nodup_iff.1 hnd;have hmem:(i,k)∈todo:=hperm.mem_iff.2 oS
  have hti:ze todo i=some k:=zbK hnd hmem;have hmi:ze m i=some k:=(hcur i).2 k hti
  have hci:ze cur i=some k:=by rw[(hcur i).1,hti]
  have hti':ze todo' i=none:=by
   rw[aget_none];simp only[Yq,Yau] at hnd';exact hnd'.1
  have htj:∀ j,j≠i→ze todo j=ze todo' j:=fun j hj=>by
   cases h:ze todo' j with
   | none=>
    rw[aget_none] at h ⊢;intro hm;apply h;obtain⟨q,hq,e⟩:=Yj.1 hm;have:=hperm.mem_iff.1 hq
    rcases Yp.1 this with rfl|hq'
    ·simp_all
    ·grind
   | some y=>exact zbK hnd (hperm.mem_iff.2 (Yak _ (zG h)))
  have hko:=hk i k hmi;obtain⟨hw0,hw1,ht0,ht1⟩:=hko;have hkp2:Mem.keep (one b) M (M1.upd b2 o'):=Mem.keep_new hkp hb2 _
  have hself2:(M1.upd b2 o').has p 177 [.int .i64 wait,.int .i64 next,.map (some b)]:=by unfold Mem.has at hself ⊢; rw[Yh _ _ hp2];exact hself
  have hlen:todo'.length<todo.length:=by have:=hperm.length_eq;simp at this;omega
  have hinv:∀ M4 cur4,Iter IdT.v Known.v M4 b2 b cur4 todo'→Mem.keep (one b) M M4→M4.has p 177 [.int .i64 wait,.int .i64 next,.map (some b)]→(∀ j,ze cur4 j=if j=i then zd7 k else ze cur j) →
    Mem.keep (one b) M M4∧M4.has p 177 [.int .i64 wait,.int .i64 next,.map (some b)]∧Iter IdT.v Known.v M4 b2 b cur4 todo'∧(todo'.map (·.1)).Nodup ∧
    ∀ i,ze cur4 i=(match ze todo' i with|some k=>some k|none=>(ze m i).bind zd7)∧(∀ k,ze todo' i=some k→ze m i=some k):=by
   intro M4 cur4 h1 h2 h3 h4;simp only[Yq,Yau] at hnd';refine⟨h2,h3,h1,hnd'.2,fun j=>?_⟩;by_cases hj:j=i
   ·simp_all
   ·simp_all
  clear hcur hperm hnd hnd' hmem htj;refine zR ?_;refine on hent ?_;refine zR ?_;refine brn (fun g=>?_) (fun g=>?_)
  ·have hw:0<k.waits:=by simpa using g
   refine zQ hself2 ?_;refine hI2.put zfC i { k with waits:=k.waits - 1 } (by simp_all) hti' fun q f hm=>?_
   have hI3:=hm _ rfl;have hkp3:Mem.keep (one b) M ((M1.upd b2 o').upd b (zdg q f i.v (Known.v { k with waits:=k.waits - 1 }))):=Yac hkp2 (Yad _ _ rfl)
   have hself3:((M1.upd b2 o').upd b (zdg q f i.v (Known.v { k with waits:=k.waits - 1 }))).has p 177 [.int .i64 wait,.int .i64 next,.map (some b)]:=by unfold Mem.has at hself2 ⊢; rw[Yh _ _ hd.ne];exact hself2
   obtain⟨M3,hM3⟩:=oI ((M1.upd b2 o').upd b (zdg q f i.v (Known.v { k with waits:=k.waits - 1 })));rw[←hM3] at hI3 hkp3 hself3;erw [←hM3];have hcur3:∀ j,ze (zt cur i { k with waits:=k.waits - 1 }) j=if j=i then some { k with waits:=k.waits - 1 } else ze cur j:=zbL _ _ _
   repeat' (first|refine brn (fun g1=>?_) (fun g1=>?_)|refine⟨?_,True.intro⟩|refine⟨_,Ya _,?_⟩|refine on (hself3.c1 rfl) ?_|fail)
   all_goals simp only[decide_eq_true_eq,decide_eq_false_iff_not] at *
   all_goals first
    | (refine hI3.del zfC i hti' fun q' f' hm'=>?_
       refine⟨⟨_,_,todo'⟩,hinv _ _ (hm' _ rfl) (Yac hkp3 (Yad _ _ rfl)) (hself3.upd hd.ne _) (fun j=>(zfI _ _ _).trans ?_),hlen,zS⟩;by_cases hj:j=i
       ·rw[if_pos hj,if_pos hj];unfold zd7;first|rw[if_pos (by assumption),if_pos oM]|rw[if_neg oM,if_pos oM]
       ·rw[if_neg hj,if_neg hj,hcur3,if_neg hj])
    | (refine⟨⟨_,_,todo'⟩,hinv _ _ hI3 hkp3 hself3 (fun j=>(hcur3 j).trans ?_),hlen,zS⟩
       by_cases hj:j=i
       ·rw[if_pos hj,if_pos hj];unfold zd7;first|rw[if_pos (by assumption),if_neg oM]|rw[if_neg oM,if_neg oM]
       ·rw[if_neg hj,if_neg hj])
    | fail
  ·have hw:k.waits=0:=by simp at g;omega
   refine zQ hself2 ?_;refine hI2.put zfC i { k with ticks:=k.ticks+1 } (by simp_all) hti' fun q f hm=>?_
   have hI3:=hm _ rfl;have hkp3:Mem.keep (one b) M ((M1.upd b2 o').upd b (zdg q f i.v (Known.v { k with ticks:=k.ticks+1 }))):=Yac hkp2 (Yad _ _ rfl)
   have hself3:((M1.upd b2 o').upd b (zdg q f i.v (Known.v { k with ticks:=k.ticks+1 }))).has p 177 [.int .i64 wait,.int .i64 next,.map (some b)]:=by unfold Mem.has at hself2 ⊢; rw[Yh _ _ hd.ne];exact hself2
   obtain⟨M3,hM3⟩:=oI ((M1.upd b2 o').upd b (zdg q f i.v (Known.v { k with ticks:=k.ticks+1 })));rw[←hM3] at hI3 hkp3 hself3;erw [←hM3];have hcur3:∀ j,ze (zt cur i { k with ticks:=k.ticks+1 }) j=if j=i then some { k with ticks:=k.ticks+1 } else ze cur j:=zbL _ _ _
   repeat' (first|refine brn (fun g1=>?_) (fun g1=>?_)|refine⟨?_,True.intro⟩|refine⟨_,Ya _,?_⟩|refine on (hself3.c1 rfl) ?_|fail)
   all_goals simp only[decide_eq_true_eq,decide_eq_false_iff_not] at *
   all_goals first
    | (refine hI3.del zfC i hti' fun q' f' hm'=>?_
       refine⟨⟨_,_,todo'⟩,hinv _ _ (hm' _ rfl) (Yac hkp3 (Yad _ _ rfl)) (hself3.upd hd.ne _) (fun j=>(zfI _ _ _).trans ?_),hlen,zS⟩;by_cases hj:j=i
       ·rw[if_pos hj,if_pos hj];unfold zd7;first|rw[if_pos (by assumption),if_pos oM]|rw[if_neg oM,if_pos oM]
       ·rw[if_neg hj,if_neg hj,hcur3,if_neg hj])
    | (refine⟨⟨_,_,todo'⟩,hinv _ _ hI3 hkp3 hself3 (fun j=>(hcur3 j).trans ?_),hlen,zS⟩
       by_cases hj:j=i
       ·rw[if_pos hj,if_pos hj];unfold zd7;first|rw[if_pos (by assumption),if_neg oM]|rw[if_neg oM,if_neg oM]
       ·rw[if_neg hj,if_neg hj])
    | fail
end
end Go.Proofs.YtlgbofpennelhaaGreat
namespace Go.Proofs.YtlgbofpennelhaaGreat
open Go Go.Proofs Go.Shelf
def Tryz.laysH_ren:Go.Shelf.Ren:=⟨fun|6=>213|15=>158|14=>287|28=>244|29=>245|20=>347|21=>348|22=>349|23=>350|24=>351|25=>352|26=>353|27=>354|46=>415|47=>302|48=>303|49=>416|50=>417|57=>471|n=>n,fun|22=>54|24=>33|25=>336|3=>3|39=>56|0=>0|53=>356|55=>271|4=>4|46=>368|45=>367|50=>247|5=>5|9=>9|66=>422|70=>426|76=>477|77=>478|n=>n,fun|n=>n⟩
theorem Tryz.laysH:Go.Proofs.SlLaysF0.n6 Tryz.prog Tryz.laysH_ren:={
 mixed:=by kernel_rfl
 f6:=⟨"slices.SortFunc[[]portage/api.Id,portage/api.Id]", by decide,Tryz.func213.trans (congrArg some (by kernel_rfl))⟩
 f14:=⟨"slices.pdqsortCmpFunc[portage/api.Id]", by decide,Tryz.func287.trans (congrArg some (by kernel_rfl))⟩
 f15:=Tryz.func158.trans (congrArg some (by kernel_rfl))
 f20:=⟨"slices.insertionSortCmpFunc[portage/api.Id]", by decide,Tryz.func347.trans (congrArg some (by kernel_rfl))⟩
 f21:=⟨"slices.heapSortCmpFunc[portage/api.Id]", by decide,Tryz.func348.trans (congrArg some (by kernel_rfl))⟩
 f22:=⟨"slices.breakPatternsCmpFunc[portage/api.Id]", by decide,Tryz.func349.trans (congrArg some (by kernel_rfl))⟩
 f23:=⟨"slices.choosePivotCmpFunc[portage/api.Id]", by decide,Tryz.func350.trans (congrArg some (by kernel_rfl))⟩
 f24:=⟨"slices.reverseRangeCmpFunc[portage/api.Id]", by decide,Tryz.func351.trans (congrArg some (by kernel_rfl))⟩
 f25:=⟨"slices.partialInsertionSortCmpFunc[portage/api.Id]", by decide,Tryz.func352.trans (congrArg some (by kernel_rfl))⟩
 f26:=⟨"slices.partitionEqualCmpFunc[portage/api.Id]", by decide,Tryz.func353.trans (congrArg some (by kernel_rfl))⟩
 f27:=⟨"slices.partitionCmpFunc[portage/api.Id]", by decide,Tryz.func354.trans (congrArg some (by kernel_rfl))⟩
 f28:=Tryz.func244.trans (congrArg some (by kernel_rfl))
 f29:=Tryz.func245.trans (congrArg some (by kernel_rfl))
 f46:=⟨"slices.siftDownCmpFunc[portage/api.Id]", by decide,Tryz.func415.trans (congrArg some (by kernel_rfl))⟩
 f47:=Tryz.func302.trans (congrArg some (by kernel_rfl))
 f48:=Tryz.func303.trans (congrArg some (by kernel_rfl))
 f49:=⟨"slices.medianAdjacentCmpFunc[portage/api.Id]", by decide,Tryz.func416.trans (congrArg some (by kernel_rfl))⟩
 f50:=⟨"slices.medianCmpFunc[portage/api.Id]", by decide,Tryz.func417.trans (congrArg some (by kernel_rfl))⟩
 f57:=⟨"slices.order2CmpFunc[portage/api.Id]", by decide,Tryz.func471.trans (congrArg some (by kernel_rfl))⟩
 t0:=Tryz.underlying0
 a0:=Tryz.isAgg0
 z0:=Tryz.sizeOf0
 v0:=Tryz.zeroValue0
 t3:=Tryz.underlying3
 a3:=Tryz.isAgg3
 z3:=Tryz.sizeOf3
 v3:=Tryz.zeroValue3
 t4:=Tryz.underlying4
 a4:=Tryz.isAgg4
 z4:=Tryz.sizeOf4
 v4:=Tryz.zeroValue4
 t5:=Tryz.underlying5
 a5:=Tryz.isAgg5
 z5:=Tryz.sizeOf5
 v5:=Tryz.zeroValue5
 t9:=Tryz.underlying9
 a9:=Tryz.isAgg9
 z9:=Tryz.sizeOf9
 v9:=Tryz.zeroValue9
 t22:=Tryz.underlying54
 a22:=Tryz.isAgg54
 z22:=Tryz.sizeOf54
 v22:=Tryz.zeroValue54
 t25:=Tryz.underlying336
 a25:=Tryz.isAgg336
 z25:=Tryz.sizeOf336
 v25:=Tryz.zeroValue336
 t39:=Tryz.underlying56
 a39:=Tryz.isAgg56
 z39:=Tryz.sizeOf56
 v39:=Tryz.zeroValue56
 t45:=Tryz.underlying367
 a45:=Tryz.isAgg367
 z45:=Tryz.sizeOf367
 v45:=Tryz.zeroValue367
 t46:=Tryz.underlying368
 a46:=Tryz.isAgg368
 z46:=Tryz.sizeOf368
 v46:=Tryz.zeroValue368
 t50:=Tryz.underlying247
 a50:=Tryz.isAgg247
 z50:=Tryz.sizeOf247
 v50:=Tryz.zeroValue247
 t53:=Tryz.underlying356
 a53:=Tryz.isAgg356
 z53:=Tryz.sizeOf356
 v53:=Tryz.zeroValue356
 t55:=Tryz.underlying271
 a55:=Tryz.isAgg271
 z55:=Tryz.sizeOf271
 v55:=Tryz.zeroValue271
 t66:=Tryz.underlying422
 a66:=Tryz.isAgg422
 z66:=Tryz.sizeOf422
 v66:=Tryz.zeroValue422
 t70:=Tryz.underlying426
 a70:=Tryz.isAgg426
 z70:=Tryz.sizeOf426
 v70:=Tryz.zeroValue426
 t76:=Tryz.underlying477
 a76:=Tryz.isAgg477
 z76:=Tryz.sizeOf477
 v76:=Tryz.zeroValue477
 t77:=Tryz.underlying478
 a77:=Tryz.isAgg478
 z77:=Tryz.sizeOf478
 v77:=Tryz.zeroValue478 }
end Go.Proofs.YtlgbofpennelhaaGreat
namespace Go.Proofs.YtlgbofpennelhaaGreat
open Go Go.Vm
attribute [local irreducible] Brn Ob Grow CallsM inR zI zF Mem.row Mem.cells Mem.setCells Mem.upd Go.Vm.Own zZ zaj zam zO New SrcOk subA NewSl Mem.textAt Mem.mapAt Mem.iterAt zC zB Wr NewEls Elems
set_option maxRecDepth 10000
def zlj (a b:IdT):Bool:=if a.o≠b.o then decide (a.o<b.o) else if a.d≠b.d then decide (a.d<b.d) else if a.e≠b.e then decide (a.e<b.e) else decide (a.c<b.c)
theorem zEo (a b:IdT) (M:Mem):CallsM Tryz.prog 215 [a.v,b.v] M fun v M'=>v = .bool (zlj a b)∧M=M':=by
 refine zxH oS ?_
 repeat' (first|refine brn (fun h=>?_) (fun h=>?_)|fail)
 all_goals (conv=>whnf)
 all_goals (refine⟨?_,rfl⟩;simp_all [zlj])
instance:Inhabited IdT:=⟨⟨0,0,0,0⟩⟩
theorem zEp (a b:IdT):zlj a b=true↔a.o<b.o∨(a.o=b.o∧(a.d<b.d∨(a.d=b.d∧(a.e<b.e∨(a.e=b.e∧a.c<b.c))))):=by
 unfold zlj
 repeat' split
 all_goals simp only[decide_eq_true_eq] at *
 all_goals omega
def zmF (x y:IdT):Int:=if zlj x y=true then -1 else 1
theorem zyR (x y:IdT):zmF x y<0↔zlj x y=true:=by
 unfold zmF;split<;>simp[*]
theorem zEq:Go.Sort.SWO (Go.Proofs.ltOf zmF):=by
 have h:∀ x y:IdT,Go.Proofs.ltOf zmF x y=zlj x y:=fun x y=>by
  unfold Go.Proofs.ltOf;rw[Bool.eq_iff_iff,decide_eq_true_eq,zyR]
 refine⟨fun x=>?_,fun x y z=>?_,fun x y z=>?_⟩<;>simp only[h,←Yb9,zEp]<;>omega
@[reducible] def zmG (i:IdT):List Value:=[.int .i64 i.o,.int .i64 i.d,.int .i64 i.e,.int .i64 i.c]
theorem zwm (i:IdT):(zmG i).length=4:=rfl
theorem zwn (x:IdT):∀ v∈zmG x,v.oneCell'=true:=by
 intro v hv;simp only[zmG,Yp,Yco,or_false] at hv;rcases hv with rfl|rfl|rfl|rfl<;>rfl
def toK (n:Int) (k:Known):Bool:=decide (k.waits=0)&&decide (k.to=n)
theorem isTo_iff {m:List (IdT×Known)} {n:Int} {i:IdT}:zgs m n i=true↔∃ k,ze m i=some k∧toK n k=true:=by
 unfold zgs toK;cases ze m i<;>simp
end Go.Proofs.YtlgbofpennelhaaGreat
namespace Go.Proofs.YtlgbofpennelhaaGreat
open Go Go.Vm
abbrev KL:=List (IdT×Known)
def zGS (L:KL):Prop:=(L.map (·.1)).Pairwise fun x y=>zlj x y=true
structure zL2 (m L:KL):Prop where
 nd:(m.map (·.1)).Nodup
 sort:zGS L
 same:∀ i,ze m i=ze L i
structure zL3 (k:Known):Prop where
 ok:KOk k
 bare:0<k.waits→k.n=0∧k.ticks=0
end Go.Proofs.YtlgbofpennelhaaGreat
namespace Go.Proofs.YtlgbofpennelhaaGreat
open Go Go.Vm Go.Proofs.Tryz
attribute [local irreducible] Brn Ob Grow CallsM inR zI zF Mem.row Mem.cells Mem.setCells Mem.upd Go.Vm.Own zZ zaj zam zO New SrcOk subA NewSl Mem.textAt Mem.mapAt Mem.iterAt zC zB Wr NewEls Elems
set_option maxRecDepth 10000
variable {p b:Nat} {wait next:Int} {m:List (IdT×Known)} {M:Mem}
theorem zGT (x y:IdT):CallsM prog 214 [.agg (zmG x).toArray,.agg (zmG y).toArray] M fun v _=>v = .int .i64 (zmF x y):=by
 refine zlA oS ?_;refine zJ (zEo x y M) ?_;refine brn (fun g=>?_) (fun g=>?_)
 ·refine zR ?_;exact(by simp[zmF,g]:Value.int .i64 (-1) = .int .i64 (zmF x y))
 ·refine zR ?_;exact(by simp[zmF,g]:Value.int .i64 1 = .int .i64 (zmF x y))
theorem ztd (hd:DeskAt M p b wait next m) (n:Int) (hm:m.length≤1000000000000):CallsM prog 135 [ptr p,.int .i64 n] M fun v M'=>
  ∃ a c,∃ l:List IdT,v = .slice a l.length c∧NewSl M 33 4 a l.length c (l.flatMap zmG) M'∧l.Nodup∧l.length≤m.length∧(l.Pairwise fun x y=>¬zlj y x=true)∧∀ i,i∈l↔zgs m n i=true:=by
 refine znp oS ?_;refine brn_f rfl ?_;refine zK hd.self ?_;refine hd.map.range fun q bi hbi hI=>?_
 replace hbi:M bi=none:=hbi
 refine zak (σ:=Mem×(Option Addr×Nat×Nat)×List IdT×KL) [5] (fun x=>[(5,.slice x.2.1.1 x.2.1.2.1 x.2.1.2.2)]) (fun _=>[]) (fun x=>x.1)
  (fun|⟨M1,(a,n1,c),l,todo⟩=>NewSl M 33 4 a n1 c (l.flatMap zmG) M1∧n1=l.length∧Iter IdT.v Known.v M1 bi b m todo∧(todo.map (·.1)).Nodup∧l.Nodup∧l.length+todo.length≤m.length∧(∀ i,i∈l→i∉todo.map (·.1))∧(∀ i,i∈l→zgs m n i=true)∧(∀ i,zgs m n i=true→i∈l∨i∈todo.map (·.1))) (fun x=>x.2.2.2.length) ⟨_,(none,0,0),[],m⟩
  ⟨(Yaw M _ _).up (Ya8 hbi),rfl,hI,hd.map.nodup,by simp,by simp,by simp,by simp,fun i h => .inr (by
   obtain⟨k,hk,_⟩:=isTo_iff.1 h
   exact Yj.2 ⟨_,zG hk,rfl⟩)⟩ zS ?_
 rintro ⟨M1,⟨a,n1,c⟩,l,todo⟩ ⟨hN,hn1,hI1,hnd,hln,hlen,hdis,hin,hall⟩;replace hn1:n1=l.length:=hn1;refine hI1.next (fun h0=>?_) (fun i k todo' o' hperm hI2 hent=>?_)
 ·subst h0 hn1;refine zR ?_;refine(zqN Tryz.laysH (by kernel_rfl) (k:=4) oD isAgg33 sizeOf33 zwm zwn zEq (g:=214) (fun args w=>zhn (by kernel_rfl) args w) (fun x y=>zGT x y) hN.wr (by omega)).mono ?_;rintro v M5 ⟨rfl,l',hp',hs',hw',hk'⟩;have hll:=hp'.length_eq
  refine⟨a,c,l',by rw[hll],?_,hp'.nodup_iff.2 hln,by omega,hs'.imp fun {x y} h=>by rwa [←zyR],fun i=>?_⟩
  ·rw[hll];exact hN.ofWr hw' hk' rfl
  ·grind
 ·have hkp:Mem.keep (fun y=>y=bi) M1 (M1.upd bi o'):=Yad _ _ rfl
  have hle2:M.le (M1.upd bi o'):=fun y o hb=>by
   rw[Yh _ _ (fun e=>by simp_all)];exact hN.le _ _ hb
  have hN2:NewSl M 33 4 a n1 c (l.flatMap zmG) (M1.upd bi o'):=hN.keep hkp (fun y e=>e▸hbi) (fun q hq e=>by
    obtain⟨_,cs,hh⟩:=hN.block hq
    exact(hI1.nb hh).1 e)
  obtain⟨M2,hM2⟩:=oI (M1.upd bi o');rw[←hM2] at hI2 hent hle2 hN2;have hnd':((i,k)::todo').map (·.1) |>.Nodup:=(hperm.map (·.1)).nodup_iff.1 hnd
  rw[Yq,Yau] at hnd';have hpl:=hperm.length_eq
  simp only[Ym] at hpl;have hmk:∀ j,j∈todo.map (·.1)↔j=i∨j∈todo'.map (·.1):=fun j=>by grind
  erw [←hM2];refine zR ?_;refine on hent ?_;refine zJ (zAu p b wait next m M2 (hd.le hle2) n i) ?_;refine brn (fun g=>?_) (fun g=>?_)
  ·refine zR ?_;refine zvM M hN2 i oS (by grind) (by dsimp only;simp[maxLen];omega) (zwn i) fun a6 c6 M6 hN6 hk6=>?_
   have hfr:∀ y,blk a y→M y=none:=fun y ⟨q,hq,e⟩=>e▸(hN2.block hq).1
   have hnb:∀ y,blk a y→y≠bi∧y≠b:=fun y ⟨q,hq,e⟩=>by
    obtain⟨_,cs,hh⟩:=hN2.block hq;exact e▸hI2.nb hh
   have hI6:=hI2.keep hk6 (fun hb=>(hnb _ hb).1 rfl) (fun hb=>(hnb _ hb).2 rfl);refine⟨⟨M6,(a6,n1+1,c6),l++[i],todo'⟩,⟨hN6,by simp[hn1],hI6,hnd'.2,?_,by simp;omega,fun j hj=>?_,fun j hj=>?_,fun j hj=>?_⟩,by simp;omega,zS⟩
   ·grind
   ·grind
   ·grind
   ·grind
  ·refine zR ?_;refine⟨⟨M2,(a,n1,c),l,todo'⟩,⟨hN2,hn1,hI2,hnd'.2,hln,by omega,fun j hj h=>hdis j hj ((hmk j).2 (.inr h)),hin,fun j hj=>?_⟩,by simp;omega,zS⟩;rcases hall j hj with h|h
   ·exact .inl h
   ·grind
theorem zwp (hd:DeskAt M p b wait next m) (n:Int) (hm:m.length≤1000000000000):CallsM prog 72 [ptr p,.int .i64 n] M fun v M'=>
  ∃ l:List IdT,v = .int .i64 l.length∧l.Nodup∧(l.Pairwise fun x y=>¬zlj y x=true)∧(∀ i,i∈l↔zgs m n i=true)∧DeskAt M' p b wait next (l.foldl zaO m)∧Mem.keep (one b) M M':=by
 refine zpd oS ?_;refine(ztd hd n hm).mono ?_;rintro v M1 ⟨a,c,l,rfl,hN,hln,hll,hs,hall⟩;have hd1:=hd.le hN.le
 have hbb:∀ y,blk a y→y≠b:=fun y ⟨q,hq,e⟩ e2=>(hd.here (hN.block hq).1).2 (e▸e2)
 refine zak (σ:=Nat×Mem) [13] (fun x=>[(13,.int .i64 x.1)]) (fun _=>[]) (fun x=>x.2) (fun|⟨k,M2⟩=>k≤l.length∧DeskAt M2 p b wait next ((l.take k).foldl zaO m)∧Mem.keep (one b) M1 M2) (fun x=>l.length - x.1) ⟨0,M1⟩ ⟨by omega,hd1,Yas _ _⟩ zS ?_;rintro ⟨k,M2⟩ ⟨hk,hd2,hk2⟩;have hN2:Wr M2 33 4 a l.length c (l.flatMap zmG):=hN.wr.mono fun q o hq ho=>hk2 _ o (hbb _ ⟨q,hq,rfl⟩) ho
 refine brn (fun g=>?_) (fun g=>?_)
 ·have hlt:k<l.length:=by have:=Zd0 g;dsimp only at this;omega
  have hx:l[k]? = some l[k]:=Yb hlt
  have htk:(l.take (k+1)).foldl zaO m=zaO ((l.take k).foldl zaO m) l[k]:=by
   rw[Y1,hx,Option.toList_some,Ya0];rfl
  generalize l[k]=i at *;obtain⟨b1,o1,ha1,hc1⟩:=hN2.src.fparts zwm oD hx;refine ob (by omega) ?_;refine atp ha1 ?_;refine on (hc1 0 4 oD) ?_;refine zW hd2.self ?_;refine hd2.map.del zfC i fun q f hm'=>?_
  have hk3:Mem.keep (one b) M1 (M2.upd b (zdq q f)):=Yac hk2 (Yad _ _ rfl);have hd3:=hd2.upd (hm' M2)
  refine zR ?_;refine obr (inR_i64 (by omega)) ?_;exact⟨⟨k+1,_⟩,⟨by omega,htk▸hd3,hk3⟩,by omega,zS⟩
 ·have hge:k=l.length:=by have:=Zd1 g;dsimp only at this;omega
  subst hge;rw[Yaj] at hd2;refine zR ?_;exact⟨l,rfl,hln,hs,hall,hd2,Yac (Ybt hN.le) hk2⟩
end Go.Proofs.YtlgbofpennelhaaGreat
namespace Go.Proofs.YtlgbofpennelhaaGreat
open Go Go.Proofs Go.Shelf
def Tryz.lays189_ren:Go.Shelf.Ren:=⟨fun|189=>110|125=>158|257=>175|128=>244|129=>245|294=>255|295=>256|296=>257|297=>258|298=>259|299=>260|216=>261|300=>262|301=>263|328=>331|329=>302|330=>303|331=>332|332=>333|215=>334|343=>409|n=>n,fun|28=>53|3=>3|46=>56|0=>0|51=>356|53=>271|4=>4|183=>368|182=>367|131=>247|5=>5|9=>9|218=>422|222=>426|228=>477|229=>478|n=>n,fun|n=>n⟩
theorem Tryz.lays189:Go.Proofs.Lays.n189 Tryz.prog Tryz.lays189_ren:={
 mixed:=by kernel_rfl
 f125:=Tryz.func158.trans (congrArg some (by kernel_rfl))
 f128:=Tryz.func244.trans (congrArg some (by kernel_rfl))
 f129:=Tryz.func245.trans (congrArg some (by kernel_rfl))
 f189:=Tryz.func110.trans (congrArg some (by kernel_rfl))
 f215:=Tryz.func334.trans (congrArg some (by kernel_rfl))
 f216:=Tryz.func261.trans (congrArg some (by kernel_rfl))
 f257:=Tryz.func175.trans (congrArg some (by kernel_rfl))
 f294:=Tryz.func255.trans (congrArg some (by kernel_rfl))
 f295:=Tryz.func256.trans (congrArg some (by kernel_rfl))
 f296:=Tryz.func257.trans (congrArg some (by kernel_rfl))
 f297:=Tryz.func258.trans (congrArg some (by kernel_rfl))
 f298:=Tryz.func259.trans (congrArg some (by kernel_rfl))
 f299:=Tryz.func260.trans (congrArg some (by kernel_rfl))
 f300:=Tryz.func262.trans (congrArg some (by kernel_rfl))
 f301:=Tryz.func263.trans (congrArg some (by kernel_rfl))
 f328:=Tryz.func331.trans (congrArg some (by kernel_rfl))
 f329:=Tryz.func302.trans (congrArg some (by kernel_rfl))
 f330:=Tryz.func303.trans (congrArg some (by kernel_rfl))
 f331:=Tryz.func332.trans (congrArg some (by kernel_rfl))
 f332:=Tryz.func333.trans (congrArg some (by kernel_rfl))
 f343:=Tryz.func409.trans (congrArg some (by kernel_rfl))
 t0:=Tryz.underlying0
 a0:=Tryz.isAgg0
 z0:=Tryz.sizeOf0
 v0:=Tryz.zeroValue0
 t3:=Tryz.underlying3
 a3:=Tryz.isAgg3
 z3:=Tryz.sizeOf3
 v3:=Tryz.zeroValue3
 t4:=Tryz.underlying4
 a4:=Tryz.isAgg4
 z4:=Tryz.sizeOf4
 v4:=Tryz.zeroValue4
 t5:=Tryz.underlying5
 a5:=Tryz.isAgg5
 z5:=Tryz.sizeOf5
 v5:=Tryz.zeroValue5
 t9:=Tryz.underlying9
 a9:=Tryz.isAgg9
 z9:=Tryz.sizeOf9
 v9:=Tryz.zeroValue9
 t28:=Tryz.underlying53
 a28:=Tryz.isAgg53
 z28:=Tryz.sizeOf53
 v28:=Tryz.zeroValue53
 t46:=Tryz.underlying56
 a46:=Tryz.isAgg56
 z46:=Tryz.sizeOf56
 v46:=Tryz.zeroValue56
 t51:=Tryz.underlying356
 a51:=Tryz.isAgg356
 z51:=Tryz.sizeOf356
 v51:=Tryz.zeroValue356
 t53:=Tryz.underlying271
 a53:=Tryz.isAgg271
 z53:=Tryz.sizeOf271
 v53:=Tryz.zeroValue271
 t131:=Tryz.underlying247
 a131:=Tryz.isAgg247
 z131:=Tryz.sizeOf247
 v131:=Tryz.zeroValue247
 t182:=Tryz.underlying367
 a182:=Tryz.isAgg367
 z182:=Tryz.sizeOf367
 v182:=Tryz.zeroValue367
 t183:=Tryz.underlying368
 a183:=Tryz.isAgg368
 z183:=Tryz.sizeOf368
 v183:=Tryz.zeroValue368
 t218:=Tryz.underlying422
 a218:=Tryz.isAgg422
 z218:=Tryz.sizeOf422
 v218:=Tryz.zeroValue422
 t222:=Tryz.underlying426
 a222:=Tryz.isAgg426
 z222:=Tryz.sizeOf426
 v222:=Tryz.zeroValue426
 t228:=Tryz.underlying477
 a228:=Tryz.isAgg477
 z228:=Tryz.sizeOf477
 v228:=Tryz.zeroValue477
 t229:=Tryz.underlying478
 a229:=Tryz.isAgg478
 z229:=Tryz.sizeOf478
 v229:=Tryz.zeroValue478 }
end Go.Proofs.YtlgbofpennelhaaGreat
namespace Go.Proofs.YtlgbofpennelhaaGreat
open Go Go.Vm Go.Proofs Go.Shelf
theorem zyS {M:Mem} {E:TypeId} {a:Option Addr} {n c:Nat} {l:List Int} (h:Wr M E 1 a n c (l.map (Value.int .i64))) (hn:n<4611686018427387904) :
  CallsM Tryz.prog 110 [.slice a n c] M fun v M'=>v = .tuple #[]∧Wr M' E 1 a n c ((zdr l).map (Value.int .i64))∧Mem.keep (blk a) M M':=
 zDL Tryz.lays189 (by kernel_rfl) h hn
end Go.Proofs.YtlgbofpennelhaaGreat
namespace Go.Proofs.YtlgbofpennelhaaGreat
open Go Go.Vm
attribute [local irreducible] Brn Ob Grow CallsM inR zI zF Mem.row Mem.cells Mem.setCells Mem.upd Go.Vm.Own zZ zaj zam zO New SrcOk subA NewSl Mem.textAt Mem.mapAt Mem.iterAt zC zB Wr NewEls Elems
set_option maxRecDepth 10000
variable {M:Mem} {p b1 b2:Nat} {a:Option Addr} {n c:Nat} {me age:Int} {nb:List Int} {st:List (Int×Int)} {m:List (Int×Hrd)}
theorem TabAt.hrdTo {M':Mem} (ht:TabAt M p b1 b2 a n c me age nb st m) (hk:Mem.keep (one b2) M M') {m':List (Int×Hrd)} (hs:MapAt zi Hrd.v M' b2 m'):TabAt M' p b1 b2 a n c me age nb st m':=
 ⟨hk _ _ ht.n2 ht.self,ht.n1,ht.n2,ht.n12,ht.hrd.src ht.nbs hk,ht.na,ht.set.mono fun o ho=>hk _ o ht.n12 ho,hs⟩
theorem zxX (ht:TabAt M p b1 b2 a n c me age nb st m) (hm:m.length≤4194304):CallsM Tryz.prog 109 [ptr p] M fun v M'=>∃ a' c',v = .slice a' m.length c'∧NewSl M 3 1 a' m.length c' ((zdr (m.map (·.1))).map zi) M':=by
 refine zly oS ?_;refine brn_f rfl ?_;refine zK ht.self ?_;refine ht.hrd.range fun q bi hbi hI=>?_
 replace hbi:M bi=none:=hbi
 refine zak (σ:=Mem×Option Addr×Nat×List Int×List (Int×Hrd)) [3] (fun x=>[(3,.slice x.2.1 x.2.2.2.1.length x.2.2.1)]) (fun _=>[]) (fun x=>x.1)
  (fun|⟨M1,a',c',ks,todo⟩=>M.le M1∧Iter zi Hrd.v M1 bi b2 m todo∧NewSl M 3 1 a' ks.length c' (ks.map zi) M1∧(ks++todo.map (·.1)).Perm (m.map (·.1))) (fun x=>x.2.2.2.2.length) ⟨_,none,0,[],m⟩
  ⟨Ya8 hbi,hI,(Yaw M 3 1).up (Ya8 hbi),by simp⟩ zS ?_
 rintro ⟨M1,a',c',ks,todo⟩ ⟨hle,hI1,hN,hp⟩;have hlen:=hp.length_eq
 simp only[Yi,Y9] at hlen;refine hI1.next (fun h0=>?_) (fun i k todo' o' hperm hI2 hent=>?_)
 ·subst h0;simp only[Ybz,Yt,Yar,Ybx] at hp hlen;refine zM (zyS hN.wr oM) ?_;rintro v M2 ⟨rfl,hw,hk⟩;have e:zdr ks=zdr (m.map (·.1)):=Ydu (le:=(· ≤ ·)) (fun x y _ _ h1 h2=>Yd8 h1 h2) (zh5 _) (zh5 _) ((zhw _).trans (hp.trans (zhw _).symm))
  rw[e] at hw;refine⟨a',c',by rw[hlen],?_⟩;rw[hlen] at hw hN;exact hN.ofWr hw hk rfl
 ·have hne:∀ r,a'=some r→r.block≠bi:=fun r hr=>by obtain⟨_,cs,hh⟩:=hN.block hr;exact(hI1.nb hh).1
  have hk:=Yad (S:=one bi) M1 (b:=bi) o' rfl;have hN2:=hN.keep hk (fun b hb=>by simp_all) fun r hr hb=>hne r hr hb
  obtain⟨M2,hM2⟩:=oI (M1.upd bi o');rw[←hM2] at hI2 hent hN2;have hpl:=hperm.length_eq
  simp only[Ym] at hpl;erw [←hM2];refine zR ?_;refine on hent ?_;refine zR ?_;refine ziQ M _ hN2 (by grind) (by simp[maxLen];omega) oC fun a6 c6 M6 hN6 hk6=>?_
  refine⟨⟨M6,a6,c6,ks++[i],todo'⟩,⟨hN6.le,?_,by simpa using hN6,?_⟩,by simp_all,by simp only[Yi,Ym,Yar];exact zS⟩
  ·refine hI2.keep hk6 ?_ ?_
   ·rintro ⟨r,hr,e⟩;obtain⟨_,cs,hh⟩:=hN2.block hr;exact(hI2.nb hh).1 e
   ·rintro ⟨r,hr,e⟩;obtain⟨_,cs,hh⟩:=hN2.block hr;exact(hI2.nb hh).2 e
  ·grind
def zjr:Option Hrd→Option Hrd
 | some h=>if h.left=1 then none else some ⟨h.c,h.left - 1⟩
 | none=>none
def zFW (m:List (Int×Hrd)):Prop:=∀ k h,ze m k=some h→1≤h.left∧h.left≤64
theorem zAx (ht:TabAt M p b1 b2 a n c me age nb st m) (hm:m.length≤4194304) (hl:zFW m):CallsM Tryz.prog 58 [ptr p] M fun v M'=>v = .int .i64 0 ∧
  ∃ m',Mem.keep (one b2) M M'∧TabAt M' p b1 b2 a n c me age nb st m'∧∀ k,ze m' k=zjr (ze m k):=by
 refine zl0 oS ?_;refine brn_f rfl ?_;refine(zxX ht hm).mono ?_;rintro v Mh ⟨a',c',rfl,hN⟩;obtain⟨ks,hks⟩:=oI (zdr (m.map (·.1)));have hperm:ks.Perm (m.map (·.1)):=hks▸zhw _
 have hnd:ks.Nodup:=hperm.nodup_iff.2 ht.hrd.nodup;rw[←hks] at hN;have hlen:ks.length=m.length:=hN.src.maplen
 refine zak (σ:=Nat×Mem×List (Int×Hrd)) [11] (fun x=>[(11,.int .i64 x.1)]) (fun _=>[]) (fun x=>x.2.1)
  (fun|⟨i,M1,m1⟩=>i≤m.length∧Mem.keep (one b2) Mh M1∧TabAt M1 p b1 b2 a n c me age nb st m1∧SrcOk M1 1 a' m.length (ks.map zi)∧∀ k,ze m1 k=if k∈ks.take i then zjr (ze m k) else ze m k) (fun x=>m.length - x.1) ⟨0,Mh,m⟩
  ⟨by omega,Yas _ _,ht.le hN.le,hN.src,by simp⟩ zS ?_
 rintro ⟨i,M1,m1⟩ ⟨hi,hk1,ht1,hs1,hg1⟩;refine brn (fun g=>?_) (fun g=>?_)
 ·have hi':i<m.length:=by have:=Zd0 g;dsimp only at this;omega
  obtain⟨hlt,b,o,rfl,hrow⟩:=hs1.at (i:=i) hi';refine ob (by omega) ?_;refine on hrow ?_;obtain⟨x,hx⟩:=oI (ks[i]);rw[←hx];have hxm:x∈m.map (·.1):=hperm.mem_iff.1 (hx▸Yai hlt)
  have hxt:x∉ks.take i:=fun h=>by
   obtain⟨j,hj,e⟩:=Ybm h;have hj':j<i:=by simp at hj;omega
   rw[List.getElem_take,hx] at e;have:=(List.getElem_inj hnd).1 e
   omega
  obtain⟨h,hh⟩:∃ h,ze m x=some h:=by
   cases e:ze m x with
   | none=>exact absurd hxm (aget_none.1 e)
   | some h=>simp
  have hh1:ze m1 x=some h:=by rw[hg1,if_neg hxt,hh]
  have hll:=hl x h hh;refine zK ht1.self ?_;refine ht1.hrd.get zcY x (fun hno=>?_) (fun h' j hyes=>?_)
  ·rw[hh1] at hno;cases hno
  rw[hh1] at hyes;cases hyes;refine zR ?_;refine obr (inR_i64 oM) ?_;refine on (ht1.self.c1 rfl) ?_;refine⟨?_,True.intro⟩;refine ht1.hrd.put zcY x ⟨h.c,h.left - 1⟩ fun q f hm2=>?_
  have hk2:=Yad (S:=one b2) M1 (b:=b2) (zdg q f (zi x) (Hrd.v ⟨h.c,h.left - 1⟩)) rfl;have ht2:=ht1.hrdTo hk2 (hm2 M1)
  have hs2:=ht1.hrd.src hs1 hk2;obtain⟨M2,hM2⟩:∃ M2,M2=M1.upd b2 (zdg q f (zi x) (Hrd.v ⟨h.c,h.left - 1⟩)):=⟨_,rfl⟩
  rw[←hM2] at hk2 ht2 hs2;erw [←hM2];have htk:ks.take (i+1)=ks.take i++[x]:=by rw[Y1,Yb hlt,←hx];rfl
  refine zR ?_;refine brn (fun g1=>?_) (fun g1=>?_)
  ·have hz:h.left=1:=by have:h.left - 1=0:=by simpa using g1
                        omega
   refine zK ht2.self ?_;refine ht2.hrd.del zcY x fun q f hm3=>?_
   have hk3:=Yad (S:=one b2) M2 (b:=b2) (zdq q f) rfl;have ht3:=ht2.hrdTo hk3 (hm3 M2)
   have hs3:=ht2.hrd.src hs2 hk3;refine zR ?_;refine obr (inR_i64 (by omega)) ?_;refine⟨⟨i+1,M2.upd b2 (zdq q f),zaO (zt m1 x ⟨h.c,h.left - 1⟩) x⟩,⟨by omega,Yac hk1 (Yac hk2 hk3),ht3,hs3,fun k=>?_⟩,by omega,zS⟩;rw[zfI,zbL,hg1,htk];by_cases e:k=x
   ·subst e;simp[hh,zjr,hz]
   ·simp[e]
  ·have hz:¬h.left=1:=by have:¬h.left - 1=0:=by simpa using g1
                         omega
   refine obr (inR_i64 (by omega)) ?_;refine⟨⟨i+1,M2,zt m1 x ⟨h.c,h.left - 1⟩⟩,⟨by omega,Yac hk1 hk2,ht2,hs2,fun k=>?_⟩,by omega,zS⟩;rw[zbL,hg1,htk];by_cases e:k=x
   ·subst e;simp[hh,zjr,hz]
   ·simp[e]
 ·have hi':i=m.length:=by have:=Zd1 g;dsimp only at this;omega
  refine zR ?_;refine⟨rfl,m1,fun b o hb hbo=>hk1 b o hb (hN.le b o hbo),ht1,fun k=>?_⟩;rw[hg1,Yf oM];by_cases e:k∈ks
  ·simp_all
  ·rw[if_neg e];have:ze m k=none:=aget_none.2 fun h=>e (hperm.mem_iff.2 h)
   rw[this];rfl
end Go.Proofs.YtlgbofpennelhaaGreat
