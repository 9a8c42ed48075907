/- Part of this proof;laid by program. -/
import Derived.Test.YtpdkkbpkplhdpaaGreatJ20
import Derived.Test.YtpdkkbpkplhdpaaGreatJ10
set_option linter.unusedVariables false
set_option linter.unusedSimpArgs false
namespace Go.Proofs.YtpdkkbpkplhdpaaGreat
open Go Go.Vm
attribute [local irreducible] Brn Ob Grow CallsM inR zax zav Mem.row Mem.cells Mem.setCells Mem.upd Go.Vm.Own zaD za5 zbc zaJ New SrcOk subA NewSl Mem.textAt Mem.mapAt Mem.iterAt zau zaj Wr NewEls Elems
set_option maxRecDepth 10000
variable {M M0:Mem} {p b sp sb:Nat} {S:StR} {came:Int} {xs:HsT} {es:EsT}
def zwm (M0:Mem) (p b sp sb:Nat) (S:StR) (came:Int) (es:EsT) (k:Int) (i:IdT) (l:List UInt8) (v:Value) (M':Mem):Prop:=
 ∃ came' xs' es',v = .int .i64 (zag S (zcV S es) k i l.length)∧came'≤came+1 ∧
  FreshSt M0 M' p b sp sb (if zag S (zcV S es) k i l.length=0 then zJ S k i l else S) came' xs' es' ∧
  (if zag S (zcV S es) k i l.length=0∧k=4 then zuP S.qg es es' i.o i.d i.e i.c else es'=es)
theorem zAI (hu:S.used.length=64) (came bytes v:Int):ze (ze (zH S b came bytes sp) 4 [.int .i64 v]) 5 ((List.replicate 64 (0:Int)).map zaa)=zH { S with epoch:=v,used:=List.replicate 64 0 } b came bytes sp:=by
 have h5:ze (zH S b came bytes sp) 4 [.int .i64 v]=zH { S with epoch:=v } b came bytes sp:=by simp[ze,zH]
 rw[h5];unfold ze
 have e:(zH { S with epoch:=v } b came bytes sp).drop (5+((List.replicate 64 (0:Int)).map zaa).length)=[.map (some b),.int .i64 came,.int .i64 bytes,ptr sp]:=by
  unfold zH;rw[List.append_assoc,List.drop_append];simp[hu]
 rw[e];simp[zH]
theorem zBP (hu:S.used.length=64) (came bytes v:Int):ze (zH S b came bytes sp) 71 [.int .i64 v]=zH S b came v sp:=by
 unfold ze;have h1:([.int .i64 S.self,.int .i64 S.qh,.int .i64 S.qb,.int .i64 S.qg,.int .i64 S.epoch]++S.used.map zaa:List Value).length=69:=by simp[hu]
 unfold zH;generalize ([.int .i64 S.self,.int .i64 S.qh,.int .i64 S.qb,.int .i64 S.qg,.int .i64 S.epoch]++S.used.map zaa:List Value)=L at *;rw[List.take_append,List.drop_append];simp[h1,List.take_of_length_le,List.drop_of_length_le]
theorem ztq {m:zby}:∀ {l:List zby},m∈l→m.p.length≤zm l
 | x::r,h=>by
  simp only[zm,List.map_cons,List.sum_cons];rcases List.mem_cons.1 h with rfl|h
  ·omega
  ·have:=ztq h;simp only[zm] at this;omega
theorem FreshSt.to (h:FreshSt M0 M p b sp sb S came xs es) {M':Mem} (hle:M.le M'):FreshSt M0 M' p b sp sb S came xs es:=
 ⟨Mem.le_trans h.le hle,h.at'.le hle,h.inv,h.invE,h.room,h.fresh⟩
theorem keepS {X:Nat→Prop} {M:Mem} {y:Nat} {E:TypeId} {l:List Value} (h:X y):Mem.keep X M (M.setCells y E l):=by
 unfold Mem.setCells;exact Mem.keep_upd _ _ h
theorem zrG (h:FreshSt M0 M p b sp sb S came xs es) (k:Int) (i:IdT) {a:Option Addr} {c:Nat} {l:List UInt8} (hl:SrcOk M 1 a l.length (l.map zl)) (hn:l.length≤1048576) (hcm:came≤4611686018427387904) :
  CallsM Tryz.prog F.zbV [ptr p,evV k i a l.length c] M (zwm M0 p b sp sb S came es k i l):=by
 refine zl2 (by simp) ?_;refine zR ?_;refine(zwk h k i a l.length c hn).mono ?_;rintro v M1 ⟨rfl,hle1⟩;have h1:=h.to hle1
 have hA:=h1.at';have hI:=h1.inv
 (conv=>whnf);refine brn (fun g=>?_) (fun g=>?_)
 ·have g1:¬zag S (zcV S es) k i l.length=0:=by simpa using g
  refine zR ?_;refine⟨came,xs,es,rfl,by omega,?_,?_⟩
  ·rw[if_neg g1];exact h1
  ·rw[if_neg (fun e=>g1 e.1)]
 have g1:zag S (zcV S es) k i l.length=0:=by simpa using g
 have hI2:=zmp hI g1;refine zR ?_;refine brn (fun g2=>?_) (fun g2=>?_)
 ·have g3:k=1:=Zd0 g2;subst g3;have he:=hI2.epoch
  have e:zJ S 1 i l={ S with epoch:=S.epoch+1,used:=List.replicate 64 0 }:=by unfold zJ;rw[if_pos rfl]
  rw[e] at he;dsimp only at he;refine zR ?_;refine on (hA.self.c1 rfl) ?_;(conv=>whnf);refine ob (zd (by omega)) ?_;(conv=>whnf);refine on hA.self.cells ?_;(conv=>whnf);refine ob (by dsimp only;rw[zcU hI.ulen];omega) ?_;(conv=>whnf)
  refine on Mem.cells_setCells ?_;have h5:ze (zH S b came (zm S.l) sp) 4 [.int .i64 (S.epoch+1)]=zH { S with epoch:=S.epoch+1 } b came (zm S.l) sp:=by simp[ze,zH]
  (conv=>whnf);refine ob (by
   dsimp only;show 69≤(ze (zH S b came (zm S.l) sp) 4 [.int .i64 (S.epoch+1)]).length
   rw[h5,zcU (S:={ S with epoch:=S.epoch+1 }) hI.ulen];omega) ?_
  have hb6:=zAI (S:=S) (b:=b) (sp:=sp) hI.ulen came (zm S.l) (S.epoch+1)
  have hs6:((M1.setCells p T.zo (ze (zH S b came (zm S.l) sp) 4 [.int .i64 (S.epoch+1)])).setCells p T.zo (ze (ze (zH S b came (zm S.l) sp) 4 [.int .i64 (S.epoch+1)]) 5 ((List.replicate 64 (0:Int)).map zaa))).has p T.zo (zH (zJ S 1 i l) b came (zm (zJ S 1 i l).l) sp):=by
   rw[e,hb6];exact Mem.has_setCells
  have hk6:Mem.keep (fun y=>y=p) M1 ((M1.setCells p T.zo (ze (zH S b came (zm S.l) sp) 4 [.int .i64 (S.epoch+1)])).setCells p T.zo (ze (ze (zH S b came (zm S.l) sp) 4 [.int .i64 (S.epoch+1)]) 5 ((List.replicate 64 (0:Int)).map zaa))):=fun y o hy ho=>by
   unfold Mem.setCells;rw[Mem.upd_ne _ _ hy,Mem.upd_ne _ _ hy];exact ho
  obtain⟨M6,hM6⟩:∃ M6,M6=((M1.setCells p T.zo (ze (zH S b came (zm S.l) sp) 4 [.int .i64 (S.epoch+1)])).setCells p T.zo (ze (ze (zH S b came (zm S.l) sp) 4 [.int .i64 (S.epoch+1)]) 5 ((List.replicate 64 (0:Int)).map zaa))):=⟨_,rfl⟩
  rw[←hM6] at hs6 hk6;have h6:=hA.head hk6 hs6 (by rw[e]) (by rw[e]) (Int.le_refl _)
  refine zR ?_;(conv=>whnf)
  erw [←hM6];refine⟨came,xs,es,by rw[g1],by omega,?_,?_⟩
  ·rw[if_pos g1];exact⟨hk6.le h1.le fun y hy=>h1.fresh y (.inl hy),h6,hI2,h1.invE,by rw[e];exact h1.room,h1.fresh⟩
  ·rw[if_neg (by omega)]
 have k1:¬k=1:=Zd1 g2
 have hk:k=2∨k=3∨k=4:=by
  have g3:zaF k i l.length=0:=by
   unfold zag at g1;split at g1
   ·rename_i g4;exact absurd g1 g4
   ·rename_i g4;simpa using g4
  unfold zaF at g3
  repeat' split at g3
  all_goals omega
 rcases hk with rfl|rfl|rfl
 ·obtain⟨m1,m2,m3,m4,m5,m6⟩:=zoi g1;obtain⟨i1,i2,i3⟩:=za8 m1;have hid:=zfH i1
  have hqb:=hI.qb;have hqh:=hI.qh
  have hnone:zD xs i=none:=by
   rcases zgS hA i with ⟨hn,_⟩|⟨x,_,_,h0,_⟩
   ·exact hn
   ·rw[m4] at h0;cases h0
  refine zR ?_;refine on (hA.self.c1 (ze8 hI.ulen ..)) ?_;(conv=>whnf);refine on (hA.self.c1 (zto hI.ulen ..)) ?_;refine zR ?_;refine new (fun b9 hb9=>?_);replace hb9:M1 b9=none:=hb9;have hN1:NewSl M1 T.zn 1 (some ⟨b9,0,none⟩) 0 0 (([]:List UInt8).map zl) _:=NewSl.lit hb9 T.zn 1 0 [] rfl
  obtain⟨M3,hM3⟩:∃ M3,M3=M1.setCells b9 T.zn []:=⟨_,rfl⟩
  rw[←hM3] at hN1;(conv=>whnf)
  erw [←hM3];refine zR ?_;(conv=>whnf)
  refine zdR ((hl.le hle1).le hN1.le) ?_;(conv=>whnf);refine ze6 M1 _ hN1 (by first|omega|(dsimp only;omega)) (by simp[maxLen];omega) (by simp[Value.oneCell',zl]) fun a5 c5 M5 hN5=>?_
  rw[Nat.zero_add l.length] at hN5;rw[Nat.zero_add l.length];have hA5:=hA.le hN5.le
  have hbp:b≠p:=(hA.map.nb hA.self).symm;obtain⟨x,hx⟩:∃ x:PX,x=⟨i,a5,c5,l,came⟩:=⟨_,rfl⟩
  have hap:zQ xs i x=xs++[(i,x)]:=by unfold zQ;rw[hnone]
  refine zT (hN5.le) ?_;(conv=>whnf)
  refine hA5.map.put idK i x (fun pp ff hput=>?_);replace hput:=hput M5;rw[hap] at hput;have hk6:Mem.keep (fun y=>y=p∨y=b) M1 (M5.upd b (ze0 pp ff (idA i) (pxV x))):=Mem.keep_trans (Mem.keep_of_le hN5.le) (Mem.keep_upd _ _ (.inr rfl))
  have hw6:Wr (M5.upd b (ze0 pp ff (idA i) (pxV x))) T.zn 1 a5 l.length c5 (l.map zl):=hN5.wr.mono fun q o hq ho=>by
   rw[Mem.upd_ne _ _ (fun e=>?_)];exact ho;obtain⟨cs,hh⟩:=(hN5.block hq).2;rw[e] at hh;exact hA5.map.nb hh rfl
  have hs6:(M5.upd b (ze0 pp ff (idA i) (pxV x))).has p T.zo (zH S b came (zm S.l) sp):=by
   unfold Mem.has;rw[Mem.upd_ne _ _ hbp.symm];exact hA5.self
  subst hx;obtain⟨M6,hM6⟩:∃ M6,M6=M5.upd b (ze0 pp ff (idA i) (pxV ⟨i,a5,c5,l,came⟩)):=⟨_,rfl⟩
  rw[←hM6] at hput hk6 hw6 hs6;(conv=>whnf)
  erw [←hM6];refine zR ?_;refine on (hs6.c1 (zto hI.ulen ..)) ?_;have hc0:=hA.came
  (conv=>whnf);refine ob (zd (by omega)) ?_;refine zR ?_;refine on hs6.cells ?_;(conv=>whnf);refine ob (by dsimp only;rw[zcU hI.ulen];omega) ?_;have hk7:Mem.keep (fun y=>y=p∨y=b) M1 (M6.setCells p T.zo (ze (zH S b came (zm S.l) sp) 70 [.int .i64 (came+1)])):=Mem.keep_trans hk6 (keepS (.inl rfl))
  have hp7:Mem.keep (fun y=>y=p) M6 (M6.setCells p T.zo (ze (zH S b came (zm S.l) sp) 70 [.int .i64 (came+1)])):=keepS rfl
  have hs7:(M6.setCells p T.zo (ze (zH S b came (zm S.l) sp) 70 [.int .i64 (came+1)])).has p T.zo (zH S b (came+1) (zm S.l) sp):=by
   rw[zuz hI.ulen];exact Mem.has_setCells
  obtain⟨M7,hM7⟩:∃ M7,M7=M6.setCells p T.zo (ze (zH S b came (zm S.l) sp) 70 [.int .i64 (came+1)]):=⟨_,rfl⟩
  rw[←hM7] at hk7 hp7 hs7;(conv=>whnf)
  erw [←hM7];refine zR ?_;refine on (hs7.c1 (zhn hI.ulen ..)) ?_;(conv=>whnf);refine ob (zd (by omega)) ?_;refine zR ?_;refine on hs7.cells ?_;(conv=>whnf);refine ob (by dsimp only;rw[zcU hI.ulen];omega) ?_;have hk8:Mem.keep (fun y=>y=p∨y=b) M1 (M7.setCells p T.zo (ze (zH S b (came+1) (zm S.l) sp) 71 [.int .i64 ((zm S.l:Int)+l.length)])):=Mem.keep_trans hk7 (keepS (.inl rfl))
  have hp8:Mem.keep (fun y=>y=p) M6 (M7.setCells p T.zo (ze (zH S b (came+1) (zm S.l) sp) 71 [.int .i64 ((zm S.l:Int)+l.length)])):=Mem.keep_trans hp7 (keepS rfl)
  have hs8:(M7.setCells p T.zo (ze (zH S b (came+1) (zm S.l) sp) 71 [.int .i64 ((zm S.l:Int)+l.length)])).has p T.zo (zH S b (came+1) ((zm S.l:Int)+l.length) sp):=by
   rw[zsX hI.ulen];exact Mem.has_setCells
  obtain⟨M8,hM8⟩:∃ M8,M8=M7.setCells p T.zo (ze (zH S b (came+1) (zm S.l) sp) 71 [.int .i64 ((zm S.l:Int)+l.length)]):=⟨_,rfl⟩
  rw[←hM8] at hk8 hp8 hs8;(conv=>whnf)
  erw [←hM8];have hbytes:(zm (S.l++[⟨i,l⟩]):Int)=(zm S.l:Int)+l.length:=by rw[zmN];simp[zm]
  have he:zJ S 2 i l={ S with l:=S.l++[⟨i,l⟩],used:=if i.o=S.self∧i.e=S.epoch then S.used.set i.d.toNat (max (zcL S i.d) i.c) else S.used }:=by unfold zJ;rw[if_neg (by decide),if_pos rfl]
  have fin:∀ M9,Mem.keep (fun y=>y=p∨y=b) M1 M9→Mem.keep (fun y=>y=p) M6 M9→M9.has p T.zo (zH (zJ S 2 i l) b (came+1) ((zm S.l:Int)+l.length) sp)→zwm M0 p b sp sb S came es 2 i l (.int .i64 0) M9:=by
   intro M9 hk9 hp9 hs9
   have h9:StAt M9 p b sp sb (zJ S 2 i l) (came+1) (xs++[(i,⟨i,a5,c5,l,came⟩)]) es:=by
    refine hA.turn hk9 ?_ (hput.mono fun o ho=>hp9 b o hbp ho) ?_ (by rw[he]) ?_ ?_ ?_ ⟨by omega,?_⟩
    ·have:(zm (zJ S 2 i l).l:Int)=(zm S.l:Int)+l.length:=by rw[he];exact hbytes
     rw[this];exact hs9
    ·intro q hq;rcases List.mem_append.1 hq with hq|hq
     ·exact .inl hq
     ·simp only[List.mem_singleton] at hq;subst hq
      exact .inr (hw6.mono fun q o hq ho=>hp9 _ o (fun e=>by
       obtain⟨cs,hh⟩:=(hN5.block hq).2;have h1':=(hN5.block hq).1
       have h2':=hA.self;unfold Mem.has at h2';rw[e,h2'] at h1'
       cases h1') ho)
    ·rw[List.map_append,hA.held,he];rfl
    ·intro q hq;rcases List.mem_append.1 hq with hq|hq
     ·exact hA.keys q hq
     ·simp only[List.mem_singleton] at hq;subst hq;rfl
    ·rw[List.pairwise_append];refine⟨hA.ord,by simp,fun a ha b hb=>?_⟩;simp only[List.mem_singleton] at hb;subst hb;exact(hA.came.2 a ha).2
    ·intro q hq;rcases List.mem_append.1 hq with hq|hq
     ·have:=hA.came.2 q hq;omega
     ·simp only[List.mem_singleton] at hq;subst hq;dsimp only;omega
   refine⟨came+1,xs++[(i,⟨i,a5,c5,l,came⟩)],es,by rw[g1],by omega,?_,?_⟩
   ·rw[if_pos g1];refine⟨hk9.le h1.le fun y hy=>?_,h9,hI2,h1.invE,by rw[he];exact h1.room,fun y hy=>?_⟩
    ·rcases hy with hy|hy
     ·exact h1.fresh y (.inl hy)
     ·exact h1.fresh y (.inr (.inl hy))
    ·rcases hy with hy|hy|⟨q,hq,hy⟩|hy
     ·exact h1.fresh y (.inl hy)
     ·exact h1.fresh y (.inr (.inl hy))
     ·rcases List.mem_append.1 hq with hq|hq
      ·exact h1.fresh y (.inr (.inr (.inl ⟨q,hq,hy⟩)))
      ·simp only[List.mem_singleton] at hq;subst hq;obtain⟨a,ha,rfl⟩:=hy;have h3:=(hN5.block ha).1
       cases e0:M0 a.block with
       | none=>rfl
       | some o=>rw[h1.le _ o e0] at h3;cases h3
     ·exact h1.fresh y (.inr (.inr (.inr hy)))
   ·rw[if_neg (by omega)]
  refine zR ?_;refine on (hs8.c1 rfl) ?_;(conv=>whnf);refine brn (fun g2=>?_) (fun g2=>?_)
  rotate_left
  ·have g3:¬i.o=S.self:=Zd1 g2;have e1:zJ S 2 i l={ S with l:=S.l++[⟨i,l⟩] }:=by rw[he,if_neg (fun h=>g3 h.1)]
   refine zR ?_;(conv=>whnf)
   exact fin M8 hk8 hp8 (by rw[e1];exact hs8)
  have g3:i.o=S.self:=Zd0 g2;refine zR ?_;refine on (hs8.c1 rfl) ?_;(conv=>whnf);refine brn (fun g4=>?_) (fun g4=>?_)
  rotate_left
  ·have g5:¬i.e=S.epoch:=Zd1 g4;have e1:zJ S 2 i l={ S with l:=S.l++[⟨i,l⟩] }:=by rw[he,if_neg (fun h=>g5 h.2)]
   refine zR ?_;(conv=>whnf)
   exact fin M8 hk8 hp8 (by rw[e1];exact hs8)
  have g5:i.e=S.epoch:=Zd0 g4;have e1:zJ S 2 i l={ S with l:=S.l++[⟨i,l⟩],used:=S.used.set i.d.toNat (max (zcL S i.d) i.c) }:=by rw[he,if_pos ⟨g3,g5⟩]
  obtain⟨d,hd⟩:∃ d:Nat,i.d=d:=⟨i.d.toNat,by omega⟩
  have hd64:d<64:=by omega
  have hk:M8.row p (0+0+5+i.d.toNat*1) 1=some [.int .i64 (zcL S i.d)]:=by
   have:=hs8.c1 (ztp hI.ulen b (came+1) ((zm S.l:Int)+l.length) sp (d:=d) hd64);rw[hd,show 0+0+5+((d:Int)).toNat*1=5+d by omega];exact this
  refine zR ?_;refine ob (by omega) ?_;(conv=>whnf);refine on hk ?_;refine zR ?_;refine ob (by omega) ?_;refine zR ?_;refine on hs8.cells ?_;(conv=>whnf);refine ob (by dsimp only;rw[zcU hI.ulen];omega) ?_
  have hput9:ze (zH S b (came+1) ((zm S.l:Int)+l.length) sp) (0+0+5+i.d.toNat*1) [.int .i64 (max (zcL S i.d) i.c)]=zH (zJ S 2 i l) b (came+1) ((zm S.l:Int)+l.length) sp:=by
   have hdn:i.d.toNat=d:=by omega
   rw[e1,show 0+0+5+i.d.toNat*1=5+d by omega,zmO hI.ulen _ _ _ hd64,hdn]
  refine zR ?_;(conv=>whnf)
  refine fin _ (Mem.keep_trans hk8 (keepS (.inl rfl))) (Mem.keep_trans hp8 (keepS rfl)) ?_;rw[←hput9];exact Mem.has_setCells
 ·refine zR ?_;refine on (hA.self.c1 (zhn hI.ulen ..)) ?_;(conv=>whnf);refine on (hA.self.c1 (ze8 hI.ulen ..)) ?_;(conv=>whnf)
  refine hA.map.get idK i (fun hn=>?_) (fun x j hx=>?_)
  ·rcases zgS hA i with ⟨_,h0,_⟩|⟨x,hx,_⟩
   ·unfold zag at g1;rw[h0] at g1
    repeat' split at g1
    all_goals first|exact absurd g1 ‹_› | (exfalso;simp_all)
   ·rw[hn] at hx;cases hx
  ·have hbx:x.p.length≤zm S.l:=by
    rw[←hA.held];exact ztq (List.mem_map.2 ⟨_,zN hx,rfl⟩:x.msg∈xs.map fun q=>q.2.msg)
   have hqb:=hI.qb;(conv=>whnf);refine ob (zd (by omega)) ?_;refine zR ?_;refine on hA.self.cells ?_;(conv=>whnf);refine ob (by dsimp only;rw[zcU hI.ulen];omega) ?_;have hw:=zBP (S:=S) (b:=b) (sp:=sp) hI.ulen came (zm S.l) ((zm S.l:Int) - x.p.length)
   have hs6:(M1.setCells p T.zo (ze (zH S b came (zm S.l) sp) 71 [.int .i64 ((zm S.l:Int) - x.p.length)])).has p T.zo (zH S b came ((zm S.l:Int) - x.p.length) sp):=by
    rw[←hw];exact Mem.has_setCells
   have hk6:Mem.keep (fun y=>y=p) M1 (M1.setCells p T.zo (ze (zH S b came (zm S.l) sp) 71 [.int .i64 ((zm S.l:Int) - x.p.length)])):=fun y o hy ho=>by
    unfold Mem.setCells;rw[Mem.upd_ne _ _ hy];exact ho
   obtain⟨M6,hM6⟩:∃ M6,M6=M1.setCells p T.zo (ze (zH S b came (zm S.l) sp) 71 [.int .i64 ((zm S.l:Int) - x.p.length)]):=⟨_,rfl⟩
   rw[←hM6] at hs6 hk6;refine zR ?_;(conv=>whnf)
   erw [←hM6];refine on (hs6.c1 (ze8 hI.ulen ..)) ?_;refine zR ?_;have hbp:b≠p:=(hA.map.nb hA.self).symm
   have hm6:MapAt idA pxV M6 b xs:=hA.map.mono fun o ho=>hk6 b o hbp ho
   (conv=>whnf);refine hm6.del idK i (fun pp ff hdel=>?_);replace hdel:=hdel M6;have hk7:Mem.keep (fun y=>y=p∨y=b) M1 (M6.upd b (zfO pp ff)):=Mem.keep_trans (Mem.keep_mono hk6 fun y hy => .inl hy) (Mem.keep_upd _ _ (.inr rfl))
   have hs7:(M6.upd b (zfO pp ff)).has p T.zo (zH S b came ((zm S.l:Int) - x.p.length) sp):=by
    unfold Mem.has;rw[Mem.upd_ne _ _ hbp.symm];exact hs6
   obtain⟨M7,hM7⟩:∃ M7,M7=M6.upd b (zfO pp ff):=⟨_,rfl⟩
   rw[←hM7] at hdel hk7 hs7;(conv=>whnf)
   erw [←hM7];refine zR ?_;(conv=>whnf)
   have hmem:=zN hx;have hxi:x.id=i:=hA.keys _ hmem
   have hml:x.msg∈S.l:=by rw[←hA.held];exact List.mem_map.2 ⟨_,hmem,rfl⟩
   have e:zJ S 3 i l={ S with l:=S.l.filter fun m=>decide (m.id≠i) }:=by unfold zJ;rw[if_neg (by decide),if_neg (by decide),if_pos rfl]
   have hbd:=zrF hI.nodup hml hxi
   have hheld:(zfA xs i).map (fun q=>q.2.msg)=S.l.filter fun m=>decide (m.id≠i):=by
    rw[←hA.held];unfold zfA;rw[List.filter_map];congr 1;apply List.filter_congr;intro q hq;have:=hA.keys q hq
    simp[this]
   have hsub:∀ q∈zfA xs i,q∈xs:=fun q hq=>(List.mem_filter.1 hq).1
   have h9:StAt M7 p b sp sb (zJ S 3 i l) came (zfA xs i) es:=by
    refine hA.turn hk7 ?_ hdel (fun q hq => .inl (hsub q hq)) (by rw[e]) (by rw[e];exact hheld) (fun q hq=>hA.keys q (hsub q hq)) (hA.ord.sublist List.filter_sublist) ⟨hA.came.1,fun q hq=>hA.came.2 q (hsub q hq)⟩;have:((zm S.l:Int) - x.p.length)=(zm (zJ S 3 i l).l:Int):=by rw[e];dsimp only at hbd ⊢; omega
    rw[e] at this ⊢;rw[←this];exact hs7
   refine⟨came,zfA xs i,es,by rw[g1],by omega,?_,?_⟩
   ·rw[if_pos g1];refine⟨hk7.le h1.le fun y hy=>?_,h9,hI2,h1.invE,by rw[e];exact h1.room,fun y hy=>?_⟩
    ·rcases hy with hy|hy
     ·exact h1.fresh y (.inl hy)
     ·exact h1.fresh y (.inr (.inl hy))
    ·rcases hy with hy|hy|⟨q,hq,hy⟩|hy
     ·exact h1.fresh y (.inl hy)
     ·exact h1.fresh y (.inr (.inl hy))
     ·exact h1.fresh y (.inr (.inr (.inl ⟨q,hsub q hq,hy⟩)))
     ·exact h1.fresh y (.inr (.inr (.inr hy)))
   ·rw[if_neg (by omega)]
 ·refine zR ?_;have hB:FreshS (M1.minus (setB sp sb es)) M1 sp sb S.qg es:=⟨Mem.minus_le _ _,hA.set,h1.invE,h1.room,fun _ hy=>Mem.minus_in hy⟩
  have hMB:M0.le (M1.minus (setB sp sb es)):=Mem.le_minus h1.le fun y hy=>h1.fresh y (.inr (.inr (.inr hy)))
  refine on (hA.self.c1 (zmo hI.ulen ..)) ?_;refine zR ?_;refine(zE9 hB i.o i.d i.e i.c).mono ?_;rintro v M2 ⟨es2,rfl,h2,hst⟩;refine zR ?_;have e:zJ S 4 i l=S:=by unfold zJ;rw[if_neg (by decide),if_neg (by decide),if_neg (by decide)]
  refine⟨came,xs,es2,by rw[g1],by omega,?_,?_⟩
  ·rw[if_pos g1,e];refine⟨Mem.le_trans hMB h2.le,hA.turned h2.le h2.at',hI,h2.inv,h2.room,fun y hy=>?_⟩;rcases hy with hy|hy|hy|hy
   ·exact h1.fresh y (.inl hy)
   ·exact h1.fresh y (.inr (.inl hy))
   ·exact h1.fresh y (.inr (.inr (.inl hy)))
   ·have h3:=h2.fresh y hy;cases e0:M0 y with
    | none=>rfl
    | some o=>rw[hMB y o e0] at h3;cases h3
  ·rw[if_pos ⟨g1,rfl⟩];exact hst
end Go.Proofs.YtpdkkbpkplhdpaaGreat
namespace Go.Proofs.YtpdkkbpkplhdpaaGreat
open Go Go.Vm
def zaB:Nat→List Int→List (Int×Int)
 | _,[]=>[]
 | d,n::r=>if 0<n then ((d:Int),n)::zaB (d+1) r else zaB (d+1) r
@[reducible] def zG (u:List Int):List (Int×Int):=zaB 0 u
def zdV:List (Int×Int)→Int→Int
 | [],_=>0
 | x::r,d=>if x.1=d then x.2 else zdV r d
def zdv (n:Int×Int):Bool→List (Int×Int)→List (Int×Int)
 | dn,[]=>if dn then [] else [n]
 | dn,x::r=>if x.1=n.1 then zdv n dn r else if dn=false∧n.1<x.1 then n::x::zdv n true r else x::zdv n dn r
@[reducible] def zqu (n:Int×Int) (l:List (Int×Int)):List (Int×Int):=zdv n false l
theorem zez:∀ (u:List Int) (k:Nat) (x:Int×Int),x∈zaB k u→(k:Int)≤x.1∧x.1<k+u.length∧0<x.2
 | [],_,x,h=>by cases h
 | n::r,k,x,h=>by
  unfold zaB at h;split at h
  ·rename_i hn;rcases List.mem_cons.1 h with rfl|h
   ·simp;omega
   ·have:=zez r (k+1) x h;simp;omega
  ·have:=zez r (k+1) x h;simp;omega
theorem zc5:∀ (u:List Int) (k:Nat),(zaB k u).length≤u.length
 | [],_=>by simp[zaB]
 | n::r,k=>by
  have:=zc5 r (k+1);unfold zaB;split<;>simp<;>omega
theorem zrH {l:List (Int×Int)} {d:Int} (h:∀ x∈l,x.1≠d):zdV l d=0:=by
 induction l with
 | nil=>rfl
 | cons x r ih=>
  unfold zdV;rw[if_neg (h x (by simp))];exact ih fun y hy=>h y (by simp[hy])
theorem zlh:∀ (u:List Int) (k:Nat) (d:Nat),(∀ n∈u,0≤n)→zdV (zaB k u) ((k+d:Nat):Int)=u.getD d 0
 | [],k,d,_=>by simp[zaB,zdV]
 | n::r,k,d,h=>by
  have h0:=h n (by simp);unfold zaB;cases d with
  | zero=>
   split
   ·simp[zdV]
   ·rename_i hn;rw[zrH fun x hx=>by have:=zez r (k+1) x hx;omega];simp;omega
  | succ d=>
   have ih:=zlh r (k+1) d (fun m hm=>h m (by simp[hm]));rw[show k+1+d=k+(d+1) by omega] at ih;split
   ·unfold zdV;rw[if_neg (by dsimp only;omega),ih];simp
   ·rw[ih];simp
theorem zhU {S:StR} (hI:zeh S) {d:Int} (hd:0≤d):zdV (zG S.used) d=zcL S d:=by
 obtain⟨k,rfl⟩:∃ k:Nat,d=k:=⟨d.toNat,by omega⟩
 have:=zlh S.used 0 k (fun n hn=>(hI.used n hn).1);rw[Nat.zero_add] at this;rw[zG,this];unfold zcL;simp
theorem zrI {n:Int×Int}:∀ {l:List (Int×Int)},(∀ x∈l,x.1≠n.1)→zdv n true l=l
 | [],_=>rfl
 | x::r,h=>by
  unfold zdv;rw[if_neg (h x (by simp)),if_neg (by simp),zrI fun y hy=>h y (by simp[hy])]
theorem ztr {n:Int×Int} {l:List (Int×Int)} (h:∀ x∈l,n.1<x.1):zdv n false l=n::l:=by
 cases l with
 | nil=>rfl
 | cons x r=>
  unfold zdv;have h1:=h x (by simp)
  rw[if_neg (by omega),if_pos ⟨rfl,h1⟩,zrI fun y hy=>by have:=h y (by simp[hy]);omega]
theorem zmq {c:Int} (hc:0<c):∀ (u:List Int) (k d:Nat),d<u.length→zdv (((k+d:Nat):Int),c) false (zaB k u)=zaB k (u.set d c)
 | [],_,_,h=>by simp at h
 | n::r,k,d,h=>by
  cases d with
  | zero=>
   have hfar:∀ x∈zaB (k+1) r,((((k+0:Nat):Int),c):Int×Int).1<x.1:=fun x hx=>by
    have:=zez r (k+1) x hx;dsimp only;omega
   have e2:zaB k ((n::r).set 0 c)=((k:Int),c)::zaB (k+1) r:=by simp[zaB,hc]
   have e1:zaB k (n::r)=if 0<n then ((k:Int),n)::zaB (k+1) r else zaB (k+1) r:=rfl
   rw[e2,e1];split
   ·rw[zdv,if_pos (by simp),ztr hfar];simp
   ·rw[ztr hfar];simp
  | succ d=>
   have ih:=zmq hc r (k+1) d (by simpa using h);rw[show k+1+d=k+(d+1) by omega] at ih;have e1:zaB k (n::r)=if 0<n then ((k:Int),n)::zaB (k+1) r else zaB (k+1) r:=rfl
   have e2:zaB k ((n::r).set (d+1) c)=if 0<n then ((k:Int),n)::zaB (k+1) (r.set d c) else zaB (k+1) (r.set d c):=rfl
   rw[e1,e2];split
   ·rw[zdv,if_neg (by dsimp only;omega),if_neg (by dsimp only;omega),ih]
   ·exact ih
theorem zzq {S:StR} (hI:zeh S) {d c:Int} (hd:0≤d∧d≤63) (hc:0<c):zqu (d,c) (zG S.used)=zG (S.used.set d.toNat c):=by
 obtain⟨k,rfl⟩:∃ k:Nat,d=k:=⟨d.toNat,by omega⟩
 have:=zmq hc S.used 0 k (by have:=hI.ulen;omega);rw[Nat.zero_add] at this;rw[zG,zqu,this];simp
theorem zmr:zG (List.replicate 64 0)=[]:=by decide
theorem zwn {u:List Int} {d:Nat} {c:Int} (h:c≤u.getD d 0) (hd:d<u.length):u.set d (max (u.getD d 0) c)=u:=by
 rw[Int.max_eq_left h];apply List.ext_getElem?;intro i;rw[List.getElem?_set];split
 ·rename_i e;subst e;simp[List.getD_eq_getElem?_getD,hd]
 ·rfl
end Go.Proofs.YtpdkkbpkplhdpaaGreat
namespace Go.Proofs.YtpdkkbpkplhdpaaGreat
open Go Go.Vm
attribute [local irreducible] Brn Ob Grow CallsM inR zax zav Mem.row Mem.cells Mem.setCells Mem.upd Go.Vm.Own zaD za5 zbc zaJ New SrcOk subA NewSl Mem.textAt Mem.mapAt Mem.iterAt zau zaj Wr NewEls Elems
set_option maxRecDepth 10000
section
variable {M:Mem}
structure MX where
 id:IdT
 a:Option Addr
 c:Nat
 p:List UInt8
@[reducible] def MX.msg (x:MX):zby:=⟨x.id,x.p⟩
@[reducible] def zli (x:MX):List Value:=[.int .i64 x.id.o,.int .i64 x.id.d,.int .i64 x.id.e,.int .i64 x.id.c,.slice x.a x.p.length x.c]
theorem zBQ (ms:List MX):∀ u∈ms.flatMap zli,u.oneCell'=true:=by
 intro u hu;obtain⟨x,_,hx⟩:=List.mem_flatMap.1 hu;simp only[zli,List.mem_cons,List.not_mem_nil,or_false] at hx;rcases hx with rfl|rfl|rfl|rfl|rfl<;>rfl
theorem ze9 (x:MX):(zli x).length=5:=rfl
@[reducible] def zeJ (n:Int×Int):List Value:=[.int .i64 n.1,.int .i64 n.2]
theorem zcD (n:Int×Int):(zeJ n).length=2:=rfl
theorem zBR (i:IdT):CallsM Tryz.prog F.zjv [idA i] M fun v M'=>v = .bool (decide (zey i))∧M=M':=by
 refine zuh (by simp) ?_;(conv=>whnf)
 repeat' ((conv=>whnf);refine brn (fun h=>?_) (fun h=>?_))
 all_goals (conv=>whnf)
 all_goals (refine⟨?_,rfl⟩;unfold zey;simp_all)
theorem zwo (k:Int) (i:IdT) (a:Option Addr) (n c:Nat):CallsM Tryz.prog F.zg7 [evV k i a n c] M fun v M'=>v = .int .i64 (zaF k i n)∧M=M':=by
 refine zt5 (by simp) ?_;(conv=>whnf);refine brn (fun h=>?_) (fun h=>?_)
 ·replace h:=Zd0 h
  ·refine zR ?_;exact⟨by unfold zaF;rw[if_neg (by omega),if_neg (by omega),if_neg (by omega)],rfl⟩
 replace h:=Zd1 h;(conv=>whnf);refine brn (fun h1=>?_) (fun h1=>?_)
 ·replace h1:=Zd0 h1
  ·refine zR ?_;exact⟨by unfold zaF;rw[if_neg (by omega),if_neg (by omega),if_neg (by omega)],rfl⟩
 replace h1:=Zd1 h1;(conv=>whnf);refine brn (fun h2=>?_) (fun h2=>?_)
 ·have h':k=2:=Zd0 h2;subst h';refine zR ?_;refine(zwg _ _ _ _ _ _ _ _).mono ?_;rintro v _ ⟨rfl,rfl⟩;refine zR ?_;exact⟨rfl,rfl⟩
 have e2:¬k=2:=Zd1 h2;(conv=>whnf);refine brn (fun h3=>?_) (fun h3=>?_)
 ·have h':k=1:=Zd0 h3;subst h';refine zR ?_;refine(zBR i).mono ?_;rintro v _ ⟨rfl,rfl⟩;refine zR ?_;refine brn (fun g=>?_) (fun g=>?_)
  ·have g1:¬zey i:=by simpa using g
   refine zR ?_;exact⟨by unfold zaF;rw[if_pos rfl,if_pos (.inl g1)],rfl⟩
  have g1:zey i:=by simpa using g
  (conv=>whnf);refine brn (fun g2=>?_) (fun g2=>?_)
  ·have g3:0<n:=by have:=Zd0 g2;omega
   refine zR ?_;exact⟨by unfold zaF;rw[if_pos rfl,if_pos (.inr g3)],rfl⟩
  ·have g3:¬0<n:=by have:=Zd1 g2;omega
   refine zR ?_;exact⟨by unfold zaF;rw[if_pos rfl,if_neg (by simp[g1,g3])],rfl⟩
 have e1:¬k=1:=Zd1 h3;refine zR ?_;refine(zgP _ _ _ _ _).mono ?_;rintro v _ ⟨rfl,rfl⟩;(conv=>whnf);refine brn (fun g=>?_) (fun g=>?_)
 ·have g':¬zdJ i=0:=by simpa using g
  refine zR ?_;refine(zgP _ _ _ _ _).mono ?_;rintro v _ ⟨rfl,rfl⟩;refine zR ?_;exact⟨by unfold zaF;rw[if_neg e1,if_neg e2,if_pos (by omega),if_pos g'],rfl⟩
 have g':zdJ i=0:=by simpa using g
 (conv=>whnf);refine brn (fun g2=>?_) (fun g2=>?_)
 ·have g3:0<n:=by have:=Zd0 g2;omega
  refine zR ?_;exact⟨by unfold zaF;rw[if_neg e1,if_neg e2,if_pos (by omega),if_neg (by simp[g']),if_pos g3],rfl⟩
 ·have g3:¬0<n:=by have:=Zd1 g2;omega
  refine zR ?_;exact⟨by unfold zaF;rw[if_neg e1,if_neg e2,if_pos (by omega),if_neg (by simp[g']),if_neg g3],rfl⟩
structure MsgsR (M:Mem) (a:Option Addr) (n:Nat) (ms:List MX):Prop where
 row:SrcOk M 5 a n (ms.flatMap zli)
 data:∀ m∈ms,SrcOk M 1 m.a m.p.length (m.p.map zl)
theorem MsgsR.le {a:Option Addr} {n:Nat} {ms:List MX} (h:MsgsR M a n ms) {M':Mem} (hle:M.le M'):MsgsR M' a n ms:=⟨h.row.le hle,fun m hm=>(h.data m hm).le hle⟩
theorem MsgsR.len {a:Option Addr} {n:Nat} {ms:List MX} (h:MsgsR M a n ms):ms.length=n:=h.row.flen ze9 (by decide)
theorem zms {a:Option Addr} {n c:Nat} {ms:List MX} (h:MsgsR M a n ms) (hn:n≤4194304) (i:IdT):CallsM Tryz.prog F.zhN [.slice a n c,idA i] M fun v M'=>v = .bool (zda (ms.map MX.msg) i)∧M=M':=by
 refine zvr (by simp) ?_;have hl:=h.len
 (conv=>whnf);refine zdc [5] (fun (j:Nat)=>[(5,.int .i64 j)]) (fun j=>j≤n∧∀ m∈ms.take j,m.id≠i) (fun j=>n - j) 0 ⟨by omega,by simp⟩ zS ?_;intro j ⟨hj,hnot⟩;(conv=>whnf);refine brn (fun g=>?_) (fun g=>?_)
 ·have hlt:j<ms.length:=by have:=Zd0 g;omega
  have hx:ms[j]? = some ms[j]:=List.getElem?_eq_getElem hlt;obtain⟨b,o,rfl,hrow⟩:=h.row.fall ze9 (by decide) hx;have hin:ms[j]∈ms:=List.getElem_mem _
  have htk:ms.take (j+1)=ms.take j++[ms[j]]:=by rw[List.take_add_one,hx];rfl
  generalize ms[j]=x at *;have hr4:=Mem.row_part hrow (p:=0) (n:=4) (by decide)
  (conv=>whnf);refine ob (by omega) ?_;(conv=>whnf);refine on hr4 ?_;(conv=>whnf);refine brn (fun g1=>?_) (fun g1=>?_)
  ·refine zR ?_;refine⟨?_,rfl⟩
   have:x.id=i:=by
    obtain⟨⟨x1,x2,x3,x4⟩,_,_,_⟩:=x;obtain⟨k1,k2,k3,k4⟩:=i;simpa[and_assoc] using g1
   have:zda (ms.map MX.msg) i=true:=by
    unfold zda;rw[List.any_eq_true];exact⟨x.msg,List.mem_map.2 ⟨x,hin,rfl⟩,by simpa using this⟩
   rw[this]
  ·(conv=>whnf);refine ob (zd (by omega)) ?_;(conv=>whnf)
   refine⟨j+1,⟨by omega,?_⟩,by omega,zS⟩;rw[htk];intro m hm;rcases List.mem_append.1 hm with hm|hm
   ·exact hnot m hm
   ·simp only[List.mem_singleton] at hm;subst hm;intro e;subst e;simp at g1
 ·have hge:n≤j:=by have:=Zd1 g;omega
  (conv=>whnf);refine⟨?_,rfl⟩;rw[List.take_of_length_le (by omega)] at hnot
  have:zda (ms.map MX.msg) i=false:=by
   unfold zda;rw[List.any_eq_false];intro m hm;obtain⟨x,hx,rfl⟩:=List.mem_map.1 hm;simpa using hnot x hx
  rw[this]
structure zgi where
 ua:Option Addr
 un:Nat
 uc:Nat
 la:Option Addr
 ln:Nat
 lc:Nat
 ka:Option Addr
 kn:Nat
 kc:Nat
@[reducible] def zhH (S:StR) (D:zgi):Value := .agg #[.int .i64 S.self,.int .i64 S.qh,.int .i64 S.qb,.int .i64 S.qg,.int .i64 S.epoch,.slice D.ua D.un D.uc,.slice D.la D.ln D.lc,.int .i64 S.qg,.slice D.ka D.kn D.kc]
structure DocAt (M:Mem) (S:StR) (L:List K) (D:zgi) (ms:List MX):Prop where
 used:SrcOk M 2 D.ua D.un ((zG S.used).flatMap zeJ)
 row:MsgsR M D.la D.ln ms
 msgs:ms.map MX.msg=S.l
 keys:SrcOk M 3 D.ka D.kn (L.flatMap zfF)
 few:D.kn≤4000000
variable {S:StR} {L:List K} {D:zgi} {ms:List MX}
theorem DocAt.le (h:DocAt M S L D ms) {M':Mem} (hle:M.le M'):DocAt M' S L D ms:=⟨h.used.le hle,h.row.le hle,h.msgs,h.keys.le hle,h.few⟩
theorem DocAt.ln (h:DocAt M S L D ms):S.l.length=D.ln:=by rw[←h.msgs,List.length_map];exact h.row.len
theorem DocAt.un (h:DocAt M S L D ms):(zG S.used).length=D.un:=h.used.flen zcD (by decide)
theorem zts (h:DocAt M S L D ms) (hI:zeh S):CallsM Tryz.prog F.zie [zhH S D] M fun v M'=>v = .int .i64 (zm S.l)∧M=M':=by
 refine zsp (by simp) ?_;have hl:=h.row.len
 have hln:=h.ln;have hqb:=hI.qb
 have hqh:=hI.qh;(conv=>whnf)
 refine zdc (σ:=Nat×Nat) [4,3] (fun y=>[(4,.int .i64 y.1),(3,.int .i64 y.2)]) (fun|⟨i,s⟩=>i≤D.ln∧s+zm ((ms.drop i).map MX.msg)=zm S.l) (fun y=>D.ln - y.1) ⟨0,0⟩ ⟨by omega,by simp[h.msgs]⟩ zS ?_;rintro ⟨i,s⟩ ⟨hi,hsum⟩;(conv=>whnf);refine brn (fun g=>?_) (fun g=>?_)
 ·have hlt:i<ms.length:=by have:=Zd0 g;dsimp only at this;omega
  have hx:ms[i]? = some ms[i]:=List.getElem?_eq_getElem hlt;obtain⟨b1,o1,ha,hcc⟩:=h.row.row.fcells ze9 (by decide) hx;rw[List.drop_eq_getElem_cons hlt] at hsum;generalize ms[i]=x at *;simp only[zm,List.map_cons,List.sum_cons] at hsum;have hs2:s+x.p.length≤zm S.l:=by simp only[zm];omega
  (conv=>whnf);refine ob (by first|omega|(dsimp only;omega)) ?_;(conv=>whnf);refine atp ha ?_;(conv=>whnf);refine on (hcc 4 _ rfl) ?_;(conv=>whnf);refine ob (zd (by first|omega|(dsimp only;omega))) ?_;(conv=>whnf);refine ob (zd (by first|omega|(dsimp only;omega))) ?_;(conv=>whnf)
  exact⟨⟨i+1,s+x.p.length⟩,⟨by omega,by simp only[zm];omega⟩,by dsimp only;omega,zS⟩
 ·have hge:ms.length≤i:=by have:=Zd1 g;dsimp only at this;omega
  rw[List.drop_of_length_le hge] at hsum;simp only[zm,List.map_nil,List.sum_nil,Nat.add_zero] at hsum;(conv=>whnf)
  exact⟨by dsimp only;rw[hsum];rfl,rfl⟩
end
section
variable {M:Mem} {S:StR} {L:List K} {D:zgi} {ms:List MX}
theorem zBS (h:DocAt M S L D ms) (hu64:S.used.length=64) (d:Int):CallsM Tryz.prog F.zjt [zhH S D,.int .i64 d] M fun v M'=>v = .int .i64 (zdV (zG S.used) d)∧M=M':=by
 refine ztZ (by simp) ?_;have hl:=h.un
 have hul:(zG S.used).length≤S.used.length:=zc5 S.used 0;(conv=>whnf)
 refine zdc [5] (fun (i:Nat)=>[(5,.int .i64 i)]) (fun i=>i≤D.un∧zdV (zG S.used) d=zdV ((zG S.used).drop i) d) (fun i=>D.un - i) 0 ⟨by omega,by simp⟩ zS ?_;intro i ⟨hi,hnx⟩;(conv=>whnf);refine brn (fun g=>?_) (fun g=>?_)
 ·have hlt:i<(zG S.used).length:=by have:=Zd0 g;omega
  have hx:(zG S.used)[i]? = some (zG S.used)[i]:=List.getElem?_eq_getElem hlt;obtain⟨b1,o1,ha,hcc⟩:=h.used.fcells zcD (by decide) hx;rw[List.drop_eq_getElem_cons hlt] at hnx;generalize (zG S.used)[i]=x at *;(conv=>whnf);refine ob (by first|omega|(dsimp only;omega)) ?_;(conv=>whnf);refine atp ha ?_;(conv=>whnf);refine on (hcc 0 _ rfl) ?_;(conv=>whnf);refine brn (fun g1=>?_) (fun g1=>?_)
  ·have e1:x.1=d:=Zd0 g1;(conv=>whnf);refine ob (by first|omega|(dsimp only;omega)) ?_;(conv=>whnf);refine atp ha ?_;(conv=>whnf);refine on (hcc 1 _ rfl) ?_;refine zR ?_;exact⟨by rw[hnx,zdV,if_pos e1],rfl⟩
  ·have e1:¬x.1=d:=Zd1 g1;(conv=>whnf);refine ob (zd (by first|omega|(dsimp only;omega))) ?_;(conv=>whnf)
   exact⟨i+1,⟨by omega,by rw[hnx,zdV,if_neg e1]⟩,by omega,zS⟩
 ·have hge:(zG S.used).length≤i:=by have:=Zd1 g;omega
  rw[List.drop_of_length_le hge] at hnx;refine zR ?_;exact⟨by rw[hnx];rfl,rfl⟩
theorem zDf {a:Option Addr} {n c:Nat} {l:List (Int×Int)} (hs:SrcOk M 2 a n (l.flatMap zeJ)) (hn:n≤64) (x:Int×Int) :
  CallsM Tryz.prog F.zkO [.slice a n c,.agg #[.int .i64 x.1,.int .i64 x.2]] M fun v M'=>∃ a' n' c',v = .slice a' n' c'∧M.le M'∧SrcOk M' 2 a' n' ((zqu x l).flatMap zeJ):=by
 refine zvk (by simp) ?_;have hl:=hs.flen zcD (by decide)
 (conv=>whnf);refine new (fun b9 hb9=>?_);replace hb9:M b9=none:=hb9;have hN:NewSl M T.zbM 2 (some ⟨b9,0,none⟩) 0 0 (([]:List (Int×Int)).flatMap zeJ) _:=NewSl.lit hb9 T.zbM 2 0 [] rfl
 obtain⟨M3,hM3⟩:∃ M3,M3=M.setCells b9 T.zbM []:=⟨_,rfl⟩
 rw[←hM3] at hN;(conv=>whnf)
 erw [←hM3]
 refine za6 (σ:=Nat×Mem×Option Addr×Nat×Bool×List (Int×Int)) [7,6,5] (fun y=>[(7,.int .i64 y.1),(6,.c (.v (.bool y.2.2.2.2.1))),(5,.slice y.2.2.1 y.2.2.2.2.2.length y.2.2.2.1)]) (fun _=>[.live T.zbM [.v (.int .i64 x.1),.v (.int .i64 x.2)],.gone b9]) (fun y=>y.2.1)
  (fun|⟨i,M4,a4,c4,dn,out⟩=>i≤n∧out.length≤2*i∧NewSl M T.zbM 2 a4 out.length c4 (out.flatMap zeJ) M4∧zqu x l=out++zdv x dn (l.drop i)) (fun y=>n - y.1) ⟨0,M3,_,_,false,[]⟩ ⟨by omega,by simp,hN,rfl⟩ zS ?_
 rintro ⟨i,M4,a4,c4,dn,out⟩ ⟨hi,hol,hN4,hins⟩;(conv=>whnf);refine brn (fun g=>?_) (fun g=>?_)
 ·have hi':i<n:=by have:=Zd0 g;dsimp only at this;omega
  have hx:l[i]? = some (l[i]'(by omega)):=List.getElem?_eq_getElem (by omega);obtain⟨b,o,ha,hcc⟩:=hs.fparts zcD (by decide) hx;rw[List.drop_eq_getElem_cons (by omega)] at hins;generalize l[i]'(by omega)=y at *
  have fin:∀ (dn':Bool) (out':List (Int×Int)) M6 a6 c6,out'.length≤2*i+1→zqu x l=out'++y::zdv x dn' (l.drop (i+1))→NewSl M T.zbM 2 a6 (out'.length+1) c6 ((out'++[y]).flatMap zeJ) M6 →
    (i+1≤n∧(out'++[y]).length≤2*(i+1)∧NewSl M T.zbM 2 a6 (out'++[y]).length c6 ((out'++[y]).flatMap zeJ) M6∧zqu x l=(out'++[y])++zdv x dn' (l.drop (i+1))):=fun dn' out' M6 a6 c6 h1 h2 h3=>
   ⟨by omega,by simp;omega,by simpa using h3,by rw[h2];simp⟩
  (conv=>whnf);refine ob (by first|omega|(dsimp only;omega)) ?_;(conv=>whnf);refine atp ha ?_;(conv=>whnf);refine on (Mem.row_le hN4.le (hcc 0 1 (by decide))) ?_;(conv=>whnf);refine brn (fun g1=>?_) (fun g1=>?_)
  ·have e1:y.1=x.1:=Zd0 g1;(conv=>whnf);refine ob (zd (by first|omega|(dsimp only;omega))) ?_;(conv=>whnf)
   refine⟨⟨i+1,M4,a4,c4,dn,out⟩,⟨by omega,by omega,hN4,by rw[hins,zdv,if_pos e1]⟩,by dsimp only;omega,zS⟩
  have e1:¬y.1=x.1:=Zd1 g1;rw[zdv,if_neg e1] at hins;cases dn with
  | true=>
   rw[if_neg (by simp)] at hins;have hN5:=hN4
   refine zR ?_;(conv=>whnf);refine ob (by first|omega|(dsimp only;omega)) ?_;(conv=>whnf);refine atp ha ?_;(conv=>whnf);refine on (Mem.row_le hN5.le (hcc 0 2 (by decide))) ?_;refine zR ?_;refine zdS M hN5 y rfl (by first|omega|(dsimp only;omega)) (by simp[maxLen];omega) (by simp[Value.oneCell']) fun a6 c6 M6 hN6 _=>?_
   (conv=>whnf);refine ob (zd (by first|omega|(dsimp only;omega))) ?_;(conv=>whnf)
   refine⟨⟨i+1,M6,a6,c6,true,out++[y]⟩,fin true out _ _ _ (by omega) hins hN6,by dsimp only;omega,?_⟩;simp only[List.length_append,List.length_cons,List.length_nil];exact zS
  | false=>
   refine zR ?_;refine ob (by first|omega|(dsimp only;omega)) ?_;(conv=>whnf);refine atp ha ?_;(conv=>whnf);refine on (Mem.row_le hN4.le (hcc 0 1 (by decide))) ?_;(conv=>whnf);refine brn (fun g2=>?_) (fun g2=>?_)
   ·have e2:x.1<y.1:=Zd0 g2;rw[if_pos ⟨rfl,e2⟩] at hins;have hins':zqu x l=(out++[x])++y::zdv x true (l.drop (i+1)):=by rw[hins];simp
    refine zR ?_;refine zdS M hN4 x rfl (by first|omega|(dsimp only;omega)) (by simp[maxLen];omega) (by simp[Value.oneCell']) fun a5 c5 M5 hN5' _=>?_
    have hN5:NewSl M T.zbM 2 a5 (out++[x]).length c5 ((out++[x]).flatMap zeJ) M5:=by simpa using hN5'
    have hlen5:(out++[x]).length=out.length+1:=by simp
    rw[hlen5] at hN5;refine zR ?_;(conv=>whnf);refine ob (by first|omega|(dsimp only;omega)) ?_;(conv=>whnf);refine atp ha ?_;(conv=>whnf);refine on (Mem.row_le hN5.le (hcc 0 2 (by decide))) ?_;refine zR ?_;refine zdS M hN5 y rfl (by first|omega|(dsimp only;omega)) (by simp[maxLen];omega) (by simp[Value.oneCell']) fun a6 c6 M6 hN6 _=>?_
    (conv=>whnf);refine ob (zd (by first|omega|(dsimp only;omega))) ?_;(conv=>whnf)
    refine⟨⟨i+1,M6,a6,c6,true,(out++[x])++[y]⟩,fin true (out++[x]) _ _ _ (by simp;omega) hins' (by simpa using hN6),by dsimp only;omega,?_⟩;simp only[List.length_append,List.length_cons,List.length_nil];exact zS
   ·have e2:¬x.1<y.1:=Zd1 g2;rw[if_neg (by simp[e2])] at hins;have hN5:=hN4
    refine zR ?_;(conv=>whnf);refine ob (by first|omega|(dsimp only;omega)) ?_;(conv=>whnf);refine atp ha ?_;(conv=>whnf);refine on (Mem.row_le hN5.le (hcc 0 2 (by decide))) ?_;refine zR ?_;refine zdS M hN5 y rfl (by first|omega|(dsimp only;omega)) (by simp[maxLen];omega) (by simp[Value.oneCell']) fun a6 c6 M6 hN6 _=>?_
    (conv=>whnf);refine ob (zd (by first|omega|(dsimp only;omega))) ?_;(conv=>whnf)
    refine⟨⟨i+1,M6,a6,c6,false,out++[y]⟩,fin false out _ _ _ (by omega) hins hN6,by dsimp only;omega,?_⟩;simp only[List.length_append,List.length_cons,List.length_nil];exact zS
 ·have hi':i=n:=by have:=Zd1 g;dsimp only at this;omega
  subst hi';have hdr:l.drop i=[]:=List.drop_of_length_le (by omega)
  rw[hdr] at hins;cases dn with
  | true=>
   have e:zdv x true []=[]:=rfl;rw[e,List.append_nil] at hins;refine zR ?_;rw[hins];exact⟨a4,_,c4,rfl,hN4.le,hN4.src⟩
  | false=>
   have e:zdv x false []=[x]:=rfl;rw[e] at hins;refine zR ?_;refine zdS M hN4 x rfl (by first|omega|(dsimp only;omega)) (by simp[maxLen];omega) (by simp[Value.oneCell']) fun a6 c6 M6 hN6 _=>?_
   refine zR ?_;rw[hins];exact⟨a6,_,c6,rfl,hN6.le,hN6.src⟩
theorem zxB {a:Option Addr} {n c:Nat} (hr:MsgsR M a n ms) (hn:n≤2097152) (i:IdT) :
  CallsM Tryz.prog F.zg4 [.slice a n c,idA i] M fun v M'=>∃ a' n' c',v = .slice a' n' c'∧M.le M'∧MsgsR M' a' n' (ms.filter fun m=>decide (m.id≠i)):=by
 refine zpO (by simp) ?_;have hl:=hr.len
 (conv=>whnf);refine new (fun b9 hb9=>?_);replace hb9:M b9=none:=hb9;have hN:NewSl M T.zdz 5 (some ⟨b9,0,none⟩) 0 0 (([]:List MX).flatMap zli) _:=NewSl.lit hb9 T.zdz 5 0 [] rfl
 obtain⟨M3,hM3⟩:∃ M3,M3=M.setCells b9 T.zdz []:=⟨_,rfl⟩
 rw[←hM3] at hN;(conv=>whnf)
 erw [←hM3]
 refine za6 (σ:=Nat×Mem×Option Addr×Nat×List MX) [6,5] (fun y=>[(6,.int .i64 y.1),(5,.slice y.2.2.1 y.2.2.2.2.length y.2.2.2.1)]) (fun _=>[.live T.zpG [.v (.int .i64 i.o),.v (.int .i64 i.d),.v (.int .i64 i.e),.v (.int .i64 i.c)],.gone b9]) (fun y=>y.2.1)
  (fun|⟨j,M4,a4,c4,out⟩=>j≤n∧out=(ms.take j).filter (fun m=>decide (m.id≠i))∧NewSl M T.zdz 5 a4 out.length c4 (out.flatMap zli) M4) (fun y=>n - y.1) ⟨0,M3,_,_,[]⟩ ⟨by omega,by simp,hN⟩ zS ?_
 rintro ⟨j,M4,a4,c4,out⟩ ⟨hj,hout,hN4⟩;have hol:out.length≤j:=by rw[hout];exact Nat.le_trans (List.length_filter_le _ _) (by simp;omega)
 (conv=>whnf);refine brn (fun g=>?_) (fun g=>?_)
 ·have hlt:j<ms.length:=by have:=Zd0 g;dsimp only at this;omega
  have hx:ms[j]? = some ms[j]:=List.getElem?_eq_getElem hlt;obtain⟨b,o,ha,hcc⟩:=hr.row.fparts ze9 (by decide) hx;have htk:ms.take (j+1)=ms.take j++[ms[j]]:=by rw[List.take_add_one,hx];rfl
  generalize ms[j]=x at *;(conv=>whnf);refine ob (by first|omega|(dsimp only;omega)) ?_;(conv=>whnf);refine atp ha ?_;(conv=>whnf);refine on (Mem.row_le hN4.le (hcc 0 4 (by decide))) ?_;(conv=>whnf);refine brn (fun g1=>?_) (fun g1=>?_)
  ·have e1:x.id≠i:=by
    intro e;subst e;simp at g1
   (conv=>whnf);refine ob (by first|omega|(dsimp only;omega)) ?_;(conv=>whnf);refine atp ha ?_;(conv=>whnf);refine on (Mem.row_le hN4.le (hcc 0 5 (by decide))) ?_;refine zR ?_;refine zdS M hN4 x rfl (by first|omega|(dsimp only;omega)) (by simp[maxLen];omega) (by simp[Value.oneCell']) fun a6 c6 M6 hN6 _=>?_
   (conv=>whnf);refine ob (zd (by first|omega|(dsimp only;omega))) ?_;(conv=>whnf)
   refine⟨⟨j+1,M6,a6,c6,out++[x]⟩,⟨by omega,by rw[htk,List.filter_append,←hout];simp[e1],by simpa using hN6⟩,by dsimp only;omega,?_⟩;simp only[List.length_append,List.length_cons,List.length_nil];exact zS
  ·have e1:x.id=i:=by
    obtain⟨⟨x1,x2,x3,x4⟩,_,_,_⟩:=x;obtain⟨k1,k2,k3,k4⟩:=i;simpa[and_assoc] using g1
   (conv=>whnf);refine ob (zd (by first|omega|(dsimp only;omega))) ?_;(conv=>whnf)
   exact⟨⟨j+1,M4,a4,c4,out⟩,⟨by omega,by rw[htk,List.filter_append,←hout];simp[e1],hN4⟩,by dsimp only;omega,zS⟩
 ·have hge:ms.length≤j:=by have:=Zd1 g;dsimp only at this;omega
  rw[List.take_of_length_le hge] at hout;refine zR ?_;refine⟨a4,_,c4,rfl,hN4.le,hout▸hN4.src,fun m hm=>(hr.data m (List.mem_filter.1 hm).1).le hN4.le⟩
end
section
variable {M:Mem} {S:StR} {L:List K} {D:zgi} {ms:List MX}
@[reducible] def zf4 (S:StR) (L:List K) (i:IdT):Int:=zfo S.qg L i.o i.d i.e i.c
theorem ztt (h:DocAt M S L D ms) (hI:zeh S) (k:Int) (i:IdT) (a:Option Addr) (n c:Nat) (hn:n≤1048576) :
  CallsM Tryz.prog F.zhM [zhH S D,evV k i a n c] M fun v M'=>v = .int .i64 (zag S (zf4 S L) k i n)∧M.le M':=by
 refine zvh (by simp) ?_;have hl:=h.row.len
 have hln:=h.ln;have hqb:=hI.qb
 have hqh:=hI.qh;have hms:=h.msgs
 refine zR ?_;refine(zwo k i a n c).mono ?_;rintro v _ ⟨rfl,rfl⟩;(conv=>whnf);refine brn (fun g=>?_) (fun g=>?_)
 ·have g1:¬zaF k i n=0:=by simpa using g
  refine zR ?_;refine(zwo k i a n c).mono ?_;rintro v _ ⟨rfl,rfl⟩;refine zR ?_;exact⟨by unfold zag;rw[if_pos g1],Mem.le_refl _⟩
 have g1:zaF k i n=0:=by simpa using g
 have hk:k=1∨k=2∨k=3∨k=4:=by
  unfold zaF at g1
  repeat' split at g1
  all_goals omega
 rcases hk with rfl|rfl|rfl|rfl
 ·refine zR ?_;refine brn (fun g2=>?_) (fun g2=>?_)
  ·have g3:S.epoch=65535:=by have:=Zd0 g2;have:=hI.epoch;omega
   refine zR ?_;exact⟨by unfold zag;rw[if_neg (by simp[g1]),if_pos rfl,if_pos g3],Mem.le_refl _⟩
  ·have g3:¬S.epoch=65535:=by have:=Zd1 g2;omega
   refine zR ?_;exact⟨by unfold zag;rw[if_neg (by simp[g1]),if_pos rfl,if_neg g3],Mem.le_refl _⟩
 ·skip
  refine zR ?_;refine brn (fun a1=>?_) (fun a1=>?_)
  ·have a2:i.d=S.self:=Zd0 a1;refine zR ?_;exact⟨by unfold zag;rw[if_neg (by simp[g1]),if_neg (by decide),if_pos rfl,if_pos (.inl a2)],Mem.le_refl _⟩
  have a2:¬i.d=S.self:=Zd1 a1;(conv=>whnf);refine brn (fun a3=>?_) (fun a3=>?_)
  ·have a4:i.o=S.self:=Zd0 a3;(conv=>whnf);refine brn (fun a5=>?_) (fun a5=>?_)
   ·have a6:S.epoch<i.e:=Zd0 a5;refine zR ?_;exact⟨by unfold zag;rw[if_neg (by simp[g1]),if_neg (by decide),if_pos rfl,if_pos (.inr ⟨a4,a6⟩)],Mem.le_refl _⟩
   ·have a6:¬S.epoch<i.e:=Zd1 a5;have a7:¬(i.d=S.self∨(i.o=S.self∧S.epoch<i.e)):=by omega
    refine zR ?_;refine(zms h.row (by omega) i).mono ?_;rintro v _ ⟨rfl,rfl⟩;rw[hms];(conv=>whnf);refine brn (fun g4=>?_) (fun g4=>?_)
    ·refine zR ?_;exact⟨by unfold zag;rw[if_neg (by simp[g1]),if_neg (by decide),if_pos rfl,if_neg a7,if_pos g4],Mem.le_refl _⟩
    have h0:¬zda S.l i=true:=by rw[g4];decide
    refine zR ?_;refine brn (fun a8=>?_) (fun a8=>?_)
    ·have a9:S.qh≤S.l.length:=by have:=Zd0 a8;omega
     refine zR ?_;exact⟨by unfold zag;rw[if_neg (by simp[g1]),if_neg (by decide),if_pos rfl,if_neg a7,if_neg h0,if_pos (.inl a9)],Mem.le_refl _⟩
    have a9:¬S.qh≤S.l.length:=by have:=Zd1 a8;omega
    refine zR ?_;refine(zts h hI).mono ?_;rintro v _ ⟨rfl,rfl⟩;refine zR ?_;refine ob (zd (by omega)) ?_;refine zR ?_;refine brn (fun b8=>?_) (fun b8=>?_)
    ·have b9:S.qb<zm S.l+n:=by have:=Zd0 b8;omega
     refine zR ?_;exact⟨by unfold zag;rw[if_neg (by simp[g1]),if_neg (by decide),if_pos rfl,if_neg a7,if_neg h0,if_pos (.inr b9)],Mem.le_refl _⟩
    have b9:¬S.qb<zm S.l+n:=by have:=Zd1 b8;omega
    refine zR ?_;exact⟨by unfold zag;rw[if_neg (by simp[g1]),if_neg (by decide),if_pos rfl,if_neg a7,if_neg h0,if_neg (by omega)],Mem.le_refl _⟩
  ·have a4:¬i.o=S.self:=Zd1 a3;have a7:¬(i.d=S.self∨(i.o=S.self∧S.epoch<i.e)):=by omega
   refine zR ?_;refine(zms h.row (by omega) i).mono ?_;rintro v _ ⟨rfl,rfl⟩;rw[hms];(conv=>whnf);refine brn (fun g4=>?_) (fun g4=>?_)
   ·refine zR ?_;exact⟨by unfold zag;rw[if_neg (by simp[g1]),if_neg (by decide),if_pos rfl,if_neg a7,if_pos g4],Mem.le_refl _⟩
   have h0:¬zda S.l i=true:=by rw[g4];decide
   refine zR ?_;refine brn (fun a8=>?_) (fun a8=>?_)
   ·have a9:S.qh≤S.l.length:=by have:=Zd0 a8;omega
    refine zR ?_;exact⟨by unfold zag;rw[if_neg (by simp[g1]),if_neg (by decide),if_pos rfl,if_neg a7,if_neg h0,if_pos (.inl a9)],Mem.le_refl _⟩
   have a9:¬S.qh≤S.l.length:=by have:=Zd1 a8;omega
   refine zR ?_;refine(zts h hI).mono ?_;rintro v _ ⟨rfl,rfl⟩;refine zR ?_;refine ob (zd (by omega)) ?_;refine zR ?_;refine brn (fun b8=>?_) (fun b8=>?_)
   ·have b9:S.qb<zm S.l+n:=by have:=Zd0 b8;omega
    refine zR ?_;exact⟨by unfold zag;rw[if_neg (by simp[g1]),if_neg (by decide),if_pos rfl,if_neg a7,if_neg h0,if_pos (.inr b9)],Mem.le_refl _⟩
   have b9:¬S.qb<zm S.l+n:=by have:=Zd1 b8;omega
   refine zR ?_;exact⟨by unfold zag;rw[if_neg (by simp[g1]),if_neg (by decide),if_pos rfl,if_neg a7,if_neg h0,if_neg (by omega)],Mem.le_refl _⟩
 ·refine zR ?_;refine(zms h.row (by omega) i).mono ?_;rintro v _ ⟨rfl,rfl⟩;rw[hms];(conv=>whnf);refine brn (fun g4=>?_) (fun g4=>?_)
  ·have h0:¬zda S.l i=true:=by simpa using g4
   refine zR ?_;exact⟨by unfold zag;rw[if_neg (by simp[g1]),if_neg (by decide),if_neg (by decide),if_pos rfl,if_neg h0],Mem.le_refl _⟩
  ·have h0:zda S.l i=true:=by simpa using g4
   refine zR ?_;exact⟨by unfold zag;rw[if_neg (by simp[g1]),if_neg (by decide),if_neg (by decide),if_pos rfl,if_pos h0],Mem.le_refl _⟩
 ·refine zR ?_;refine brn (fun g2=>?_) (fun g2=>?_)
  ·have g3:i.d≠S.self:=by simpa using g2
   refine zR ?_;exact⟨by unfold zag;rw[if_neg (by simp[g1]),if_neg (by decide),if_neg (by decide),if_neg (by decide),if_pos g3],Mem.le_refl _⟩
  ·have g3:¬i.d≠S.self:=by simpa using g2
   refine zR ?_;refine(zsW h.keys (by have:=h.few;omega) S.qg i.o i.d i.e i.c).mono ?_;rintro v M1 ⟨rfl,h1⟩;refine zR ?_;exact⟨by unfold zag;rw[if_neg (by simp[g1]),if_neg (by decide),if_neg (by decide),if_neg (by decide),if_neg g3],h1⟩
end
end Go.Proofs.YtpdkkbpkplhdpaaGreat
