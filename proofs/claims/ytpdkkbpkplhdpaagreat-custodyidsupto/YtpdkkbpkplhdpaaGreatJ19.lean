/- Part of this proof;laid by program. -/
import Derived.Test.YtpdkkbpkplhdpaaGreatJ18
import Derived.Test.YtpdkkbpkplhdpaaGreatJ10
set_option linter.unusedVariables false
set_option linter.unusedSimpArgs false
namespace Go.Proofs.YtpdkkbpkplhdpaaGreat
open Go Go.Vm
attribute [local irreducible] Brn Ob Grow CallsM inR zaD zaC Mem.row Mem.cells Mem.setCells Mem.upd Go.Vm.Own zaG za7 za9 zaR New SrcOk subA NewSl Mem.textAt Mem.mapAt Mem.iterAt zaB zam Wr NewEls Elems
set_option maxRecDepth 10000
section
variable {M M0:Mem} {p b sp sb:Nat} {S:StR} {came:Int} {xs:HsT} {es:EsT}
theorem StAt.pset (h:StAt M p b sp sb S came xs es):¬setB sp sb es p:=by
 rintro (e|e|⟨q,hq,hy⟩)
 ·have:=h.set.self
  rw[←e] at this
  exact absurd (this.inj h.self).1 (by decide)
 ·exact h.set.map.nb h.self e
 ·have hE:=h.set.ents q hq
  rcases hy with e|⟨a,ha,e⟩
  ·have:=hE.self
   rw[←e] at this
   exact absurd (this.inj h.self).1 (by decide)
  ·obtain⟨cs,hh⟩:=hE.more.block ha
   rw[e] at hh
   exact absurd (hh.inj h.self).1 (by decide)
theorem StAt.bset (h:StAt M p b sp sb S came xs es):¬setB sp sb es b:=by
 rintro (e|e|⟨q,hq,hy⟩)
 ·exact h.map.nb h.set.self e.symm
 ·exact h.ne e
 ·have hE:=h.set.ents q hq
  rcases hy with e|⟨a,ha,e⟩
  ·exact h.map.nb hE.self e.symm
  ·obtain⟨cs,hh⟩:=hE.more.block ha
   exact h.map.nb hh e
theorem StAt.dhas (h:StAt M p b sp sb S came xs es) {q:IdT×PX} (hq:q∈xs) {y:Nat} (hy:blk q.2.a y):∃ cs,M.has y T.zm cs:=by
 obtain⟨a,ha,e⟩:=hy
 obtain⟨cs,hh⟩:=(h.data q hq).block ha
 exact⟨cs,e▸hh⟩
theorem StAt.dset (h:StAt M p b sp sb S came xs es) {q:IdT×PX} (hq:q∈xs) {y:Nat} (hy:blk q.2.a y):¬setB sp sb es y∧y≠p∧y≠b:=by
 obtain⟨cs,hc⟩:=h.dhas hq hy
 refine⟨?_,fun e=>?_,h.map.nb hc⟩
 ·rintro (e|e|⟨q,hq,hy⟩)
  ·have:=h.set.self
   rw[←e] at this
   exact absurd (this.inj hc).1 (by decide)
  ·exact h.set.map.nb hc e
  ·have hE:=h.set.ents q hq
   rcases hy with e|⟨a,ha,e⟩
   ·have:=hE.self
    rw[←e] at this
    exact absurd (this.inj hc).1 (by decide)
   ·obtain⟨cs,hh⟩:=hE.more.block ha
    rw[e] at hh
    exact absurd (hh.inj hc).1 (by decide)
 ·subst e
  exact absurd (h.self.inj hc).1 (by decide)
theorem StAt.head {M':Mem} (h:StAt M p b sp sb S came xs es) {S':StR} {came':Int} (hk:Mem.keep (fun y=>y=p) M M') (hs:M'.has p T.zk (zH S' b came' (zp S'.l) sp)) (hl:S'.l=S.l) (hq:S'.qg=S.qg) (hc:came≤came'):StAt M' p b sp sb S' came' xs es:=by
 have hb:b≠p:=(h.map.nb h.self).symm
 refine⟨hs,h.map.mono fun o ho=>hk b o hb ho,fun q hx=>(h.data q hx).mono fun a o ha ho=>hk _ o (h.dset hx ⟨a,ha,rfl⟩).2.1 ho,?_,hl▸h.held,h.keys,h.ord,⟨Int.le_trans h.came.1 hc,fun q hx=>⟨(h.came.2 q hx).1,Int.lt_of_lt_of_le (h.came.2 q hx).2 hc⟩⟩,h.ne⟩
 rw[hq]
 exact h.set.mono fun y o hy ho=>hk y o (fun e=>h.pset (e▸hy)) ho
theorem StAt.turned {M':Mem} {es':EsT} (h:StAt M p b sp sb S came xs es) (hB:(M.minus (setB sp sb es)).le M') (hs:SetAt M' sp sb S.qg es'):StAt M' p b sp sb S came xs es':=by
 have keep:∀ y o,¬setB sp sb es y→M y=some o→M' y=some o:=fun y o hy ho=>hB y o (by unfold Mem.minus;rw[if_neg hy];exact ho)
 exact⟨keep _ _ h.pset h.self,h.map.mono fun o ho=>keep _ _ h.bset ho,fun q hq=>(h.data q hq).mono fun a o ha ho=>keep _ o (h.dset hq ⟨a,ha,rfl⟩).1 ho,hs,h.held,h.keys,h.ord,h.came,h.ne⟩
theorem StAt.turn {M':Mem} (h:StAt M p b sp sb S came xs es) {S':StR} {came':Int} {xs':HsT} (hk:Mem.keep (fun y=>y=p∨y=b) M M') (hs:M'.has p T.zk (zH S' b came' (zp S'.l) sp)) (hm:MapAt idA pxV M' b xs')
  (hd:∀ q∈xs',q∈xs∨Wr M' T.zm 1 q.2.a q.2.p.length q.2.c (q.2.p.map zh)) (hq:S'.qg=S.qg) (hl:xs'.map (fun q=>q.2.msg)=S'.l) (hkeys:∀ q∈xs',q.2.id=q.1) (hord:xs'.Pairwise fun x y=>x.2.n<y.2.n)
  (hc:0≤came'∧∀ q∈xs',0≤q.2.n∧q.2.n<came'):StAt M' p b sp sb S' came' xs' es:=by
 refine⟨hs,hm,fun q hx=>?_,?_,hl,hkeys,hord,hc,h.ne⟩
 ·rcases hd q hx with hx|hx
  ·exact(h.data q hx).mono fun a o ha ho=>hk _ o (fun e=>by have:=h.dset hx ⟨a,ha,rfl⟩;rcases e with e|e;exact this.2.1 e;exact this.2.2 e) ho
  ·exact hx
 ·rw[hq]
  exact h.set.mono fun y o hy ho=>hk y o (fun e=>by rcases e with e|e;exact h.pset (e▸hy);exact h.bset (e▸hy)) ho
theorem zrl {i:IdT}:∀ {l:List zbs} {m:zbs},(l.map (·.id)).Nodup→m∈l→m.id=i→zp (l.filter fun m=>decide (m.id≠i))+m.p.length=zp l
 | x::r,m,hn,hm,he=>by
  simp only[List.map_cons,List.nodup_cons] at hn
  rcases List.mem_cons.1 hm with rfl|hm
  ·have hall:r.filter (fun m=>decide (m.id≠i))=r:=by
    rw[List.filter_eq_self]
    intro y hy
    have:y.id≠m.id:=fun e=>hn.1 (List.mem_map.2 ⟨y,hy,e⟩)
    simp;rw[←he];exact this
   rw[List.filter_cons,if_neg (by simp[he]),hall]
   simp only[zp,List.map_cons,List.sum_cons]
   omega
  ·have hx:x.id≠i:=fun e=>hn.1 (List.mem_map.2 ⟨m,hm,by rw[he,e]⟩)
   have ih:=zrl hn.2 hm he
   rw[List.filter_cons,if_pos (by simpa using hx)]
   simp only[zp,List.map_cons,List.sum_cons] at ih ⊢
   omega
theorem znR {L R:List Value} {x y:Value} {n:Nat} (h:L.length=n):zg (L++x::R) n [y]=L++y::R:=by
 unfold zg
 subst h
 simp
theorem zvI (S:StR) (b:Nat) (came bytes:Int) (sp:Nat):zH S b came bytes sp=([.int .i64 S.self,.int .i64 S.qh,.int .i64 S.qb,.int .i64 S.qg,.int .i64 S.epoch]++S.used.map zan++[.map (some b)]) ++ .int .i64 came::[.int .i64 bytes,ptr sp]:=by simp[zH]
theorem zud (hu:S.used.length=64) (came bytes v:Int):zg (zH S b came bytes sp) 70 [.int .i64 v]=zH S b v bytes sp:=by
 rw[zvI,zvI,znR (by simp[hu])]
theorem zsK (hu:S.used.length=64) (came bytes v:Int):zg (zH S b came bytes sp) 71 [.int .i64 v]=zH S b came v sp:=by
 have e:∀ w,zH S b came w sp=([.int .i64 S.self,.int .i64 S.qh,.int .i64 S.qb,.int .i64 S.qg,.int .i64 S.epoch]++S.used.map zan++[.map (some b),.int .i64 came]) ++ .int .i64 w::[ptr sp]:=fun w=>by simp[zH]
 rw[e,e,znR (by simp[hu])]
theorem zma (hu:S.used.length=64) (came bytes v:Int) {d:Nat} (hd:d<64):zg (zH S b came bytes sp) (5+d) [.int .i64 v]=zH { S with used:=S.used.set d v } b came bytes sp:=by
 unfold zH
 have h1:zg (([.int .i64 S.self,.int .i64 S.qh,.int .i64 S.qb,.int .i64 S.qg,.int .i64 S.epoch]:List Value)++S.used.map zan++[.map (some b),.int .i64 came,.int .i64 bytes,ptr sp]) (5+d) [.int .i64 v]=([.int .i64 S.self,.int .i64 S.qh,.int .i64 S.qb,.int .i64 S.qg,.int .i64 S.epoch]:List Value)++(S.used.map zan).set d (zan v)++[.map (some b),.int .i64 came,.int .i64 bytes,ptr sp]:=by
  have hlt:d<(S.used.map zan).length:=by simp[hu,hd]
  obtain⟨A,x,B,hAB,hA⟩:∃ A x B,S.used.map zan=A++x::B∧A.length=d:=⟨_,_,_,(List.take_append_drop d _).symm.trans (by rw[List.drop_eq_getElem_cons hlt]),by simp[hu];omega⟩
  rw[hAB]
  have e2:(A++x::B).set d (zan v)=A++zan v::B:=by subst hA;simp
  rw[e2]
  have e3:∀ y,([.int .i64 S.self,.int .i64 S.qh,.int .i64 S.qb,.int .i64 S.qg,.int .i64 S.epoch]:List Value)++(A++y::B)++[.map (some b),.int .i64 came,.int .i64 bytes,ptr sp]=(([.int .i64 S.self,.int .i64 S.qh,.int .i64 S.qb,.int .i64 S.qg,.int .i64 S.epoch]:List Value)++A)++y::(B++[.map (some b),.int .i64 came,.int .i64 bytes,ptr sp]):=fun y=>by simp
  rw[e3,e3,znR (by simp[hA];omega)]
 rw[h1,List.map_set]
end
section
variable {M M0:Mem} {p b sp sb:Nat} {S:StR} {came:Int} {xs:HsT} {es:EsT}
def zvJ (M0:Mem) (p b sp sb:Nat) (S:StR) (came:Int) (es:EsT) (k:Int) (i:IdT) (l:List UInt8) (v:Value) (M':Mem):Prop:=
 ∃ came' xs' es',v = .int .i64 (za3 S (zdr S es) k i l.length)∧came'≤came+1 ∧
  FreshSt M0 M' p b sp sb (if za3 S (zdr S es) k i l.length=0 then zP S k i l else S) came' xs' es' ∧
  (if za3 S (zdr S es) k i l.length=0∧k=4 then zyG S.qg es es' i.o i.d i.e i.c else es'=es)
theorem zz3 (hu:S.used.length=64) (came bytes v:Int):zg (zg (zH S b came bytes sp) 4 [.int .i64 v]) 5 ((List.replicate 64 (0:Int)).map zan)=zH { S with epoch:=v,used:=List.replicate 64 0 } b came bytes sp:=by
 have h5:zg (zH S b came bytes sp) 4 [.int .i64 v]=zH { S with epoch:=v } b came bytes sp:=by simp[zg,zH]
 rw[h5]
 unfold zg
 have e:(zH { S with epoch:=v } b came bytes sp).drop (5+((List.replicate 64 (0:Int)).map zan).length)=[.map (some b),.int .i64 came,.int .i64 bytes,ptr sp]:=by
  unfold zH
  rw[List.append_assoc,List.drop_append]
  simp[hu]
 rw[e]
 simp[zH]
theorem zBa (hu:S.used.length=64) (came bytes v:Int):zg (zH S b came bytes sp) 71 [.int .i64 v]=zH S b came v sp:=by
 unfold zg
 have h1:([.int .i64 S.self,.int .i64 S.qh,.int .i64 S.qb,.int .i64 S.qg,.int .i64 S.epoch]++S.used.map zan:List Value).length=69:=by simp[hu]
 unfold zH
 generalize ([.int .i64 S.self,.int .i64 S.qh,.int .i64 S.qb,.int .i64 S.qg,.int .i64 S.epoch]++S.used.map zan:List Value)=L at *
 rw[List.take_append,List.drop_append]
 simp[h1,List.take_of_length_le,List.drop_of_length_le]
theorem ztd {m:zbs}:∀ {l:List zbs},m∈l→m.p.length≤zp l
 | x::r,h=>by
  simp only[zp,List.map_cons,List.sum_cons]
  rcases List.mem_cons.1 h with rfl|h
  ·omega
  ·have:=ztd h
   simp only[zp] at this
   omega
theorem FreshSt.to (h:FreshSt M0 M p b sp sb S came xs es) {M':Mem} (hle:M.le M'):FreshSt M0 M' p b sp sb S came xs es:=
 ⟨Mem.le_trans h.le hle,h.at'.le hle,h.inv,h.invE,h.room,h.fresh⟩
theorem keepS {X:Nat→Prop} {M:Mem} {y:Nat} {E:TypeId} {l:List Value} (h:X y):Mem.keep X M (M.setCells y E l):=by
 unfold Mem.setCells;exact Mem.keep_upd _ _ h
theorem zrm (h:FreshSt M0 M p b sp sb S came xs es) (k:Int) (i:IdT) {a:Option Addr} {c:Nat} {l:List UInt8} (hl:SrcOk M 1 a l.length (l.map zh)) (hn:l.length≤1048576) (hcm:came≤4611686018427387904) :
  CallsM Tryz.prog F.zbM [ptr p,evV k i a l.length c] M (zvJ M0 p b sp sb S came es k i l):=by
 refine zlo (by simp) ?_
 refine zR ?_
 refine(zvH h k i a l.length c hn).mono ?_
 rintro v M1 ⟨rfl,hle1⟩
 have h1:=h.to hle1
 have hA:=h1.at'
 have hI:=h1.inv
 (conv=>whnf);refine brn (fun g=>?_) (fun g=>?_)
 ·have g1:¬za3 S (zdr S es) k i l.length=0:=by simpa using g
  refine zR ?_
  refine⟨came,xs,es,rfl,by omega,?_,?_⟩
  ·rw[if_neg g1];exact h1
  ·rw[if_neg (fun e=>g1 e.1)]
 have g1:za3 S (zdr S es) k i l.length=0:=by simpa using g
 have hI2:=zyI hI g1
 refine zR ?_
 refine brn (fun g2=>?_) (fun g2=>?_)
 ·have g3:k=1:=Zd0 g2
  subst g3
  have he:=hI2.epoch
  have e:zP S 1 i l={ S with epoch:=S.epoch+1,used:=List.replicate 64 0 }:=by unfold zP;rw[if_pos rfl]
  rw[e] at he
  dsimp only at he
  refine zR ?_
  refine on (hA.self.c1 rfl) ?_
  (conv=>whnf);refine ob (ze (by omega)) ?_
  (conv=>whnf);refine on hA.self.cells ?_
  (conv=>whnf);refine ob (by dsimp only;rw[zcK hI.ulen];omega) ?_
  (conv=>whnf)
  refine on Mem.cells_setCells ?_
  have h5:zg (zH S b came (zp S.l) sp) 4 [.int .i64 (S.epoch+1)]=zH { S with epoch:=S.epoch+1 } b came (zp S.l) sp:=by simp[zg,zH]
  (conv=>whnf);refine ob (by
   dsimp only
   show 69≤(zg (zH S b came (zp S.l) sp) 4 [.int .i64 (S.epoch+1)]).length
   rw[h5,zcK (S:={ S with epoch:=S.epoch+1 }) hI.ulen];omega) ?_
  have hb6:=zz3 (S:=S) (b:=b) (sp:=sp) hI.ulen came (zp S.l) (S.epoch+1)
  have hs6:((M1.setCells p T.zk (zg (zH S b came (zp S.l) sp) 4 [.int .i64 (S.epoch+1)])).setCells p T.zk (zg (zg (zH S b came (zp S.l) sp) 4 [.int .i64 (S.epoch+1)]) 5 ((List.replicate 64 (0:Int)).map zan))).has p T.zk (zH (zP S 1 i l) b came (zp (zP S 1 i l).l) sp):=by
   rw[e,hb6];exact Mem.has_setCells
  have hk6:Mem.keep (fun y=>y=p) M1 ((M1.setCells p T.zk (zg (zH S b came (zp S.l) sp) 4 [.int .i64 (S.epoch+1)])).setCells p T.zk (zg (zg (zH S b came (zp S.l) sp) 4 [.int .i64 (S.epoch+1)]) 5 ((List.replicate 64 (0:Int)).map zan))):=fun y o hy ho=>by
   unfold Mem.setCells;rw[Mem.upd_ne _ _ hy,Mem.upd_ne _ _ hy];exact ho
  obtain⟨M6,hM6⟩:∃ M6,M6=((M1.setCells p T.zk (zg (zH S b came (zp S.l) sp) 4 [.int .i64 (S.epoch+1)])).setCells p T.zk (zg (zg (zH S b came (zp S.l) sp) 4 [.int .i64 (S.epoch+1)]) 5 ((List.replicate 64 (0:Int)).map zan))):=⟨_,rfl⟩
  rw[←hM6] at hs6 hk6
  have h6:=hA.head hk6 hs6 (by rw[e]) (by rw[e]) (Int.le_refl _)
  refine zR ?_
  (conv=>whnf)
  erw [←hM6]
  refine⟨came,xs,es,by rw[g1],by omega,?_,?_⟩
  ·rw[if_pos g1]
   exact⟨hk6.le h1.le fun y hy=>h1.fresh y (.inl hy),h6,hI2,h1.invE,by rw[e];exact h1.room,h1.fresh⟩
  ·rw[if_neg (by omega)]
 have k1:¬k=1:=Zd1 g2
 have hk:k=2∨k=3∨k=4:=by
  have g3:zbb k i l.length=0:=by
   unfold za3 at g1
   split at g1
   ·rename_i g4;exact absurd g1 g4
   ·rename_i g4;simpa using g4
  unfold zbb at g3
  repeat' split at g3
  all_goals omega
 rcases hk with rfl|rfl|rfl
 ·obtain⟨m1,m2,m3,m4,m5,m6⟩:=zsJ g1
  obtain⟨i1,i2,i3⟩:=za6 m1
  have hid:=zgm i1
  have hqb:=hI.qb
  have hqh:=hI.qh
  have hnone:zF xs i=none:=by
   rcases zgl hA i with ⟨hn,_⟩|⟨x,_,_,h0,_⟩
   ·exact hn
   ·rw[m4] at h0;cases h0
  refine zR ?_
  refine on (hA.self.c1 (zeO hI.ulen ..)) ?_
  (conv=>whnf);refine on (hA.self.c1 (ztb hI.ulen ..)) ?_
  refine zR ?_
  refine new (fun b9 hb9=>?_)
  replace hb9:M1 b9=none:=hb9
  have hN1:NewSl M1 T.zm 1 (some ⟨b9,0,none⟩) 0 0 (([]:List UInt8).map zh) _:=NewSl.lit hb9 T.zm 1 0 [] rfl
  obtain⟨M3,hM3⟩:∃ M3,M3=M1.setCells b9 T.zm []:=⟨_,rfl⟩
  rw[←hM3] at hN1
  (conv=>whnf)
  erw [←hM3]
  refine zR ?_
  (conv=>whnf)
  refine zdW ((hl.le hle1).le hN1.le) ?_
  (conv=>whnf);refine ze8 M1 _ hN1 (by first|omega|(dsimp only;omega)) (by simp[maxLen];omega) (by simp[Value.oneCell',zh]) fun a5 c5 M5 hN5=>?_
  rw[Nat.zero_add l.length] at hN5
  rw[Nat.zero_add l.length]
  have hA5:=hA.le hN5.le
  have hbp:b≠p:=(hA.map.nb hA.self).symm
  obtain⟨x,hx⟩:∃ x:PX,x=⟨i,a5,c5,l,came⟩:=⟨_,rfl⟩
  have hap:zY xs i x=xs++[(i,x)]:=by unfold zY;rw[hnone]
  refine zT (hN5.le) ?_
  (conv=>whnf)
  refine hA5.map.put idK i x (fun pp ff hput=>?_)
  replace hput:=hput M5
  rw[hap] at hput
  have hk6:Mem.keep (fun y=>y=p∨y=b) M1 (M5.upd b (zeH pp ff (idA i) (pxV x))):=Mem.keep_trans (Mem.keep_of_le hN5.le) (Mem.keep_upd _ _ (.inr rfl))
  have hw6:Wr (M5.upd b (zeH pp ff (idA i) (pxV x))) T.zm 1 a5 l.length c5 (l.map zh):=hN5.wr.mono fun q o hq ho=>by
   rw[Mem.upd_ne _ _ (fun e=>?_)];exact ho
   obtain⟨cs,hh⟩:=(hN5.block hq).2
   rw[e] at hh
   exact hA5.map.nb hh rfl
  have hs6:(M5.upd b (zeH pp ff (idA i) (pxV x))).has p T.zk (zH S b came (zp S.l) sp):=by
   unfold Mem.has;rw[Mem.upd_ne _ _ hbp.symm];exact hA5.self
  subst hx
  obtain⟨M6,hM6⟩:∃ M6,M6=M5.upd b (zeH pp ff (idA i) (pxV ⟨i,a5,c5,l,came⟩)):=⟨_,rfl⟩
  rw[←hM6] at hput hk6 hw6 hs6
  (conv=>whnf)
  erw [←hM6]
  refine zR ?_
  refine on (hs6.c1 (ztb hI.ulen ..)) ?_
  have hc0:=hA.came
  (conv=>whnf);refine ob (ze (by omega)) ?_
  refine zR ?_
  refine on hs6.cells ?_
  (conv=>whnf);refine ob (by dsimp only;rw[zcK hI.ulen];omega) ?_
  have hk7:Mem.keep (fun y=>y=p∨y=b) M1 (M6.setCells p T.zk (zg (zH S b came (zp S.l) sp) 70 [.int .i64 (came+1)])):=Mem.keep_trans hk6 (keepS (.inl rfl))
  have hp7:Mem.keep (fun y=>y=p) M6 (M6.setCells p T.zk (zg (zH S b came (zp S.l) sp) 70 [.int .i64 (came+1)])):=keepS rfl
  have hs7:(M6.setCells p T.zk (zg (zH S b came (zp S.l) sp) 70 [.int .i64 (came+1)])).has p T.zk (zH S b (came+1) (zp S.l) sp):=by
   rw[zud hI.ulen];exact Mem.has_setCells
  obtain⟨M7,hM7⟩:∃ M7,M7=M6.setCells p T.zk (zg (zH S b came (zp S.l) sp) 70 [.int .i64 (came+1)]):=⟨_,rfl⟩
  rw[←hM7] at hk7 hp7 hs7
  (conv=>whnf)
  erw [←hM7]
  refine zR ?_
  refine on (hs7.c1 (zgQ hI.ulen ..)) ?_
  (conv=>whnf);refine ob (ze (by omega)) ?_
  refine zR ?_
  refine on hs7.cells ?_
  (conv=>whnf);refine ob (by dsimp only;rw[zcK hI.ulen];omega) ?_
  have hk8:Mem.keep (fun y=>y=p∨y=b) M1 (M7.setCells p T.zk (zg (zH S b (came+1) (zp S.l) sp) 71 [.int .i64 ((zp S.l:Int)+l.length)])):=Mem.keep_trans hk7 (keepS (.inl rfl))
  have hp8:Mem.keep (fun y=>y=p) M6 (M7.setCells p T.zk (zg (zH S b (came+1) (zp S.l) sp) 71 [.int .i64 ((zp S.l:Int)+l.length)])):=Mem.keep_trans hp7 (keepS rfl)
  have hs8:(M7.setCells p T.zk (zg (zH S b (came+1) (zp S.l) sp) 71 [.int .i64 ((zp S.l:Int)+l.length)])).has p T.zk (zH S b (came+1) ((zp S.l:Int)+l.length) sp):=by
   rw[zsK hI.ulen];exact Mem.has_setCells
  obtain⟨M8,hM8⟩:∃ M8,M8=M7.setCells p T.zk (zg (zH S b (came+1) (zp S.l) sp) 71 [.int .i64 ((zp S.l:Int)+l.length)]):=⟨_,rfl⟩
  rw[←hM8] at hk8 hp8 hs8
  (conv=>whnf)
  erw [←hM8]
  have hbytes:(zp (S.l++[⟨i,l⟩]):Int)=(zp S.l:Int)+l.length:=by rw[zl9];simp[zp]
  have he:zP S 2 i l={ S with l:=S.l++[⟨i,l⟩],used:=if i.o=S.self∧i.e=S.epoch then S.used.set i.d.toNat (max (zcg S i.d) i.c) else S.used }:=by unfold zP;rw[if_neg (by decide),if_pos rfl]
  have fin:∀ M9,Mem.keep (fun y=>y=p∨y=b) M1 M9→Mem.keep (fun y=>y=p) M6 M9→M9.has p T.zk (zH (zP S 2 i l) b (came+1) ((zp S.l:Int)+l.length) sp)→zvJ M0 p b sp sb S came es 2 i l (.int .i64 0) M9:=by
   intro M9 hk9 hp9 hs9
   have h9:StAt M9 p b sp sb (zP S 2 i l) (came+1) (xs++[(i,⟨i,a5,c5,l,came⟩)]) es:=by
    refine hA.turn hk9 ?_ (hput.mono fun o ho=>hp9 b o hbp ho) ?_ (by rw[he]) ?_ ?_ ?_ ⟨by omega,?_⟩
    ·have:(zp (zP S 2 i l).l:Int)=(zp S.l:Int)+l.length:=by rw[he];exact hbytes
     rw[this];exact hs9
    ·intro q hq
     rcases List.mem_append.1 hq with hq|hq
     ·exact .inl hq
     ·simp only[List.mem_singleton] at hq
      subst hq
      exact .inr (hw6.mono fun q o hq ho=>hp9 _ o (fun e=>by
       obtain⟨cs,hh⟩:=(hN5.block hq).2
       have h1':=(hN5.block hq).1
       have h2':=hA.self
       unfold Mem.has at h2'
       rw[e,h2'] at h1'
       cases h1') ho)
    ·rw[List.map_append,hA.held,he];rfl
    ·intro q hq
     rcases List.mem_append.1 hq with hq|hq
     ·exact hA.keys q hq
     ·simp only[List.mem_singleton] at hq;subst hq;rfl
    ·rw[List.pairwise_append]
     refine⟨hA.ord,by simp,fun a ha b hb=>?_⟩
     simp only[List.mem_singleton] at hb
     subst hb
     exact(hA.came.2 a ha).2
    ·intro q hq
     rcases List.mem_append.1 hq with hq|hq
     ·have:=hA.came.2 q hq;omega
     ·simp only[List.mem_singleton] at hq;subst hq;dsimp only;omega
   refine⟨came+1,xs++[(i,⟨i,a5,c5,l,came⟩)],es,by rw[g1],by omega,?_,?_⟩
   ·rw[if_pos g1]
    refine⟨hk9.le h1.le fun y hy=>?_,h9,hI2,h1.invE,by rw[he];exact h1.room,fun y hy=>?_⟩
    ·rcases hy with hy|hy
     ·exact h1.fresh y (.inl hy)
     ·exact h1.fresh y (.inr (.inl hy))
    ·rcases hy with hy|hy|⟨q,hq,hy⟩|hy
     ·exact h1.fresh y (.inl hy)
     ·exact h1.fresh y (.inr (.inl hy))
     ·rcases List.mem_append.1 hq with hq|hq
      ·exact h1.fresh y (.inr (.inr (.inl ⟨q,hq,hy⟩)))
      ·simp only[List.mem_singleton] at hq
       subst hq
       obtain⟨a,ha,rfl⟩:=hy
       have h3:=(hN5.block ha).1
       cases e0:M0 a.block with
       | none=>rfl
       | some o=>rw[h1.le _ o e0] at h3;cases h3
     ·exact h1.fresh y (.inr (.inr (.inr hy)))
   ·rw[if_neg (by omega)]
  refine zR ?_
  refine on (hs8.c1 rfl) ?_
  (conv=>whnf);refine brn (fun g2=>?_) (fun g2=>?_)
  rotate_left
  ·have g3:¬i.o=S.self:=Zd1 g2
   have e1:zP S 2 i l={ S with l:=S.l++[⟨i,l⟩] }:=by rw[he,if_neg (fun h=>g3 h.1)]
   refine zR ?_
   (conv=>whnf)
   exact fin M8 hk8 hp8 (by rw[e1];exact hs8)
  have g3:i.o=S.self:=Zd0 g2
  refine zR ?_
  refine on (hs8.c1 rfl) ?_
  (conv=>whnf);refine brn (fun g4=>?_) (fun g4=>?_)
  rotate_left
  ·have g5:¬i.e=S.epoch:=Zd1 g4
   have e1:zP S 2 i l={ S with l:=S.l++[⟨i,l⟩] }:=by rw[he,if_neg (fun h=>g5 h.2)]
   refine zR ?_
   (conv=>whnf)
   exact fin M8 hk8 hp8 (by rw[e1];exact hs8)
  have g5:i.e=S.epoch:=Zd0 g4
  have e1:zP S 2 i l={ S with l:=S.l++[⟨i,l⟩],used:=S.used.set i.d.toNat (max (zcg S i.d) i.c) }:=by rw[he,if_pos ⟨g3,g5⟩]
  obtain⟨d,hd⟩:∃ d:Nat,i.d=d:=⟨i.d.toNat,by omega⟩
  have hd64:d<64:=by omega
  have hk:M8.row p (0+0+5+i.d.toNat*1) 1=some [.int .i64 (zcg S i.d)]:=by
   have:=hs8.c1 (ztc hI.ulen b (came+1) ((zp S.l:Int)+l.length) sp (d:=d) hd64)
   rw[hd,show 0+0+5+((d:Int)).toNat*1=5+d by omega];exact this
  refine zR ?_
  refine ob (by omega) ?_
  (conv=>whnf);refine on hk ?_
  refine zR ?_
  refine ob (by omega) ?_
  refine zR ?_
  refine on hs8.cells ?_
  (conv=>whnf);refine ob (by dsimp only;rw[zcK hI.ulen];omega) ?_
  have hput9:zg (zH S b (came+1) ((zp S.l:Int)+l.length) sp) (0+0+5+i.d.toNat*1) [.int .i64 (max (zcg S i.d) i.c)]=zH (zP S 2 i l) b (came+1) ((zp S.l:Int)+l.length) sp:=by
   have hdn:i.d.toNat=d:=by omega
   rw[e1,show 0+0+5+i.d.toNat*1=5+d by omega,zma hI.ulen _ _ _ hd64,hdn]
  refine zR ?_
  (conv=>whnf)
  refine fin _ (Mem.keep_trans hk8 (keepS (.inl rfl))) (Mem.keep_trans hp8 (keepS rfl)) ?_
  rw[←hput9]
  exact Mem.has_setCells
 ·refine zR ?_
  refine on (hA.self.c1 (zgQ hI.ulen ..)) ?_
  (conv=>whnf);refine on (hA.self.c1 (zeO hI.ulen ..)) ?_
  (conv=>whnf)
  refine hA.map.get idK i (fun hn=>?_) (fun x j hx=>?_)
  ·rcases zgl hA i with ⟨_,h0,_⟩|⟨x,hx,_⟩
   ·unfold za3 at g1
    rw[h0] at g1
    repeat' split at g1
    all_goals first|exact absurd g1 ‹_› | (exfalso;simp_all)
   ·rw[hn] at hx;cases hx
  ·have hbx:x.p.length≤zp S.l:=by
    rw[←hA.held]
    exact ztd (List.mem_map.2 ⟨_,zQ hx,rfl⟩:x.msg∈xs.map fun q=>q.2.msg)
   have hqb:=hI.qb
   (conv=>whnf);refine ob (ze (by omega)) ?_
   refine zR ?_
   refine on hA.self.cells ?_
   (conv=>whnf);refine ob (by dsimp only;rw[zcK hI.ulen];omega) ?_
   have hw:=zBa (S:=S) (b:=b) (sp:=sp) hI.ulen came (zp S.l) ((zp S.l:Int) - x.p.length)
   have hs6:(M1.setCells p T.zk (zg (zH S b came (zp S.l) sp) 71 [.int .i64 ((zp S.l:Int) - x.p.length)])).has p T.zk (zH S b came ((zp S.l:Int) - x.p.length) sp):=by
    rw[←hw];exact Mem.has_setCells
   have hk6:Mem.keep (fun y=>y=p) M1 (M1.setCells p T.zk (zg (zH S b came (zp S.l) sp) 71 [.int .i64 ((zp S.l:Int) - x.p.length)])):=fun y o hy ho=>by
    unfold Mem.setCells;rw[Mem.upd_ne _ _ hy];exact ho
   obtain⟨M6,hM6⟩:∃ M6,M6=M1.setCells p T.zk (zg (zH S b came (zp S.l) sp) 71 [.int .i64 ((zp S.l:Int) - x.p.length)]):=⟨_,rfl⟩
   rw[←hM6] at hs6 hk6
   refine zR ?_
   (conv=>whnf)
   erw [←hM6]
   refine on (hs6.c1 (zeO hI.ulen ..)) ?_
   refine zR ?_
   have hbp:b≠p:=(hA.map.nb hA.self).symm
   have hm6:MapAt idA pxV M6 b xs:=hA.map.mono fun o ho=>hk6 b o hbp ho
   (conv=>whnf)
   refine hm6.del idK i (fun pp ff hdel=>?_)
   replace hdel:=hdel M6
   have hk7:Mem.keep (fun y=>y=p∨y=b) M1 (M6.upd b (zfn pp ff)):=Mem.keep_trans (Mem.keep_mono hk6 fun y hy => .inl hy) (Mem.keep_upd _ _ (.inr rfl))
   have hs7:(M6.upd b (zfn pp ff)).has p T.zk (zH S b came ((zp S.l:Int) - x.p.length) sp):=by
    unfold Mem.has;rw[Mem.upd_ne _ _ hbp.symm];exact hs6
   obtain⟨M7,hM7⟩:∃ M7,M7=M6.upd b (zfn pp ff):=⟨_,rfl⟩
   rw[←hM7] at hdel hk7 hs7
   (conv=>whnf)
   erw [←hM7]
   refine zR ?_
   (conv=>whnf)
   have hmem:=zQ hx
   have hxi:x.id=i:=hA.keys _ hmem
   have hml:x.msg∈S.l:=by rw[←hA.held];exact List.mem_map.2 ⟨_,hmem,rfl⟩
   have e:zP S 3 i l={ S with l:=S.l.filter fun m=>decide (m.id≠i) }:=by unfold zP;rw[if_neg (by decide),if_neg (by decide),if_pos rfl]
   have hbd:=zrl hI.nodup hml hxi
   have hheld:(ze9 xs i).map (fun q=>q.2.msg)=S.l.filter fun m=>decide (m.id≠i):=by
    rw[←hA.held]
    unfold ze9
    rw[List.filter_map]
    congr 1
    apply List.filter_congr
    intro q hq
    have:=hA.keys q hq
    simp[this]
   have hsub:∀ q∈ze9 xs i,q∈xs:=fun q hq=>(List.mem_filter.1 hq).1
   have h9:StAt M7 p b sp sb (zP S 3 i l) came (ze9 xs i) es:=by
    refine hA.turn hk7 ?_ hdel (fun q hq => .inl (hsub q hq)) (by rw[e]) (by rw[e];exact hheld) (fun q hq=>hA.keys q (hsub q hq)) (hA.ord.sublist List.filter_sublist) ⟨hA.came.1,fun q hq=>hA.came.2 q (hsub q hq)⟩
    have:((zp S.l:Int) - x.p.length)=(zp (zP S 3 i l).l:Int):=by rw[e];dsimp only at hbd ⊢; omega
    rw[e] at this ⊢
    rw[←this];exact hs7
   refine⟨came,ze9 xs i,es,by rw[g1],by omega,?_,?_⟩
   ·rw[if_pos g1]
    refine⟨hk7.le h1.le fun y hy=>?_,h9,hI2,h1.invE,by rw[e];exact h1.room,fun y hy=>?_⟩
    ·rcases hy with hy|hy
     ·exact h1.fresh y (.inl hy)
     ·exact h1.fresh y (.inr (.inl hy))
    ·rcases hy with hy|hy|⟨q,hq,hy⟩|hy
     ·exact h1.fresh y (.inl hy)
     ·exact h1.fresh y (.inr (.inl hy))
     ·exact h1.fresh y (.inr (.inr (.inl ⟨q,hsub q hq,hy⟩)))
     ·exact h1.fresh y (.inr (.inr (.inr hy)))
   ·rw[if_neg (by omega)]
 ·refine zR ?_
  have hB:FreshS (M1.minus (setB sp sb es)) M1 sp sb S.qg es:=⟨Mem.minus_le _ _,hA.set,h1.invE,h1.room,fun _ hy=>Mem.minus_in hy⟩
  have hMB:M0.le (M1.minus (setB sp sb es)):=Mem.le_minus h1.le fun y hy=>h1.fresh y (.inr (.inr (.inr hy)))
  refine on (hA.self.c1 (zlM hI.ulen ..)) ?_
  refine zR ?_
  refine(zEE hB i.o i.d i.e i.c).mono ?_
  rintro v M2 ⟨es2,rfl,h2,hst⟩
  refine zR ?_
  have e:zP S 4 i l=S:=by unfold zP;rw[if_neg (by decide),if_neg (by decide),if_neg (by decide)]
  refine⟨came,xs,es2,by rw[g1],by omega,?_,?_⟩
  ·rw[if_pos g1,e]
   refine⟨Mem.le_trans hMB h2.le,hA.turned h2.le h2.at',hI,h2.inv,h2.room,fun y hy=>?_⟩
   rcases hy with hy|hy|hy|hy
   ·exact h1.fresh y (.inl hy)
   ·exact h1.fresh y (.inr (.inl hy))
   ·exact h1.fresh y (.inr (.inr (.inl hy)))
   ·have h3:=h2.fresh y hy
    cases e0:M0 y with
    | none=>rfl
    | some o=>rw[hMB y o e0] at h3;cases h3
  ·rw[if_pos ⟨g1,rfl⟩];exact hst
end
end Go.Proofs.YtpdkkbpkplhdpaaGreat
namespace Go.Proofs.YtpdkkbpkplhdpaaGreat
open Go Go.Vm
def zau:Nat→List Int→List (Int×Int)
 | _,[]=>[]
 | d,n::r=>if 0<n then ((d:Int),n)::zau (d+1) r else zau (d+1) r
@[reducible] def zad (u:List Int):List (Int×Int):=zau 0 u
def ze4:List (Int×Int)→Int→Int
 | [],_=>0
 | x::r,d=>if x.1=d then x.2 else ze4 r d
def zf0 (n:Int×Int):Bool→List (Int×Int)→List (Int×Int)
 | dn,[]=>if dn then [] else [n]
 | dn,x::r=>if x.1=n.1 then zf0 n dn r else if dn=false∧n.1<x.1 then n::x::zf0 n true r else x::zf0 n dn r
theorem zef:∀ (u:List Int) (k:Nat) (x:Int×Int),x∈zau k u→(k:Int)≤x.1∧x.1<k+u.length∧0<x.2
 | [],_,x,h=>by cases h
 | n::r,k,x,h=>by
  unfold zau at h
  split at h
  ·rename_i hn
   rcases List.mem_cons.1 h with rfl|h
   ·simp;omega
   ·have:=zef r (k+1) x h;simp;omega
  ·have:=zef r (k+1) x h;simp;omega
theorem zeg:∀ (u:List Int) (k:Nat),(zau k u).length≤u.length
 | [],_=>by simp[zau]
 | n::r,k=>by
  have:=zeg r (k+1)
  unfold zau
  split<;>simp<;>omega
theorem zrn {l:List (Int×Int)} {d:Int} (h:∀ x∈l,x.1≠d):ze4 l d=0:=by
 induction l with
 | nil=>rfl
 | cons x r ih=>
  unfold ze4
  rw[if_neg (h x (by simp))]
  exact ih fun y hy=>h y (by simp[hy])
theorem zkD:∀ (u:List Int) (k:Nat) (d:Nat),(∀ n∈u,0≤n)→ze4 (zau k u) ((k+d:Nat):Int)=u.getD d 0
 | [],k,d,_=>by simp[zau,ze4]
 | n::r,k,d,h=>by
  have h0:=h n (by simp)
  unfold zau
  cases d with
  | zero=>
   split
   ·simp[ze4]
   ·rename_i hn
    rw[zrn fun x hx=>by have:=zef r (k+1) x hx;omega]
    simp;omega
  | succ d=>
   have ih:=zkD r (k+1) d (fun m hm=>h m (by simp[hm]))
   rw[show k+1+d=k+(d+1) by omega] at ih
   split
   ·unfold ze4
    rw[if_neg (by dsimp only;omega),ih]
    simp
   ·rw[ih];simp
theorem zkE {S:StR} (hI:zdA S) {d:Int} (hd:0≤d):ze4 (zad S.used) d=zcg S d:=by
 obtain⟨k,rfl⟩:∃ k:Nat,d=k:=⟨d.toNat,by omega⟩
 have:=zkD S.used 0 k (fun n hn=>(hI.used n hn).1)
 rw[Nat.zero_add] at this
 rw[zad,this]
 unfold zcg
 simp
theorem zro {n:Int×Int}:∀ {l:List (Int×Int)},(∀ x∈l,x.1≠n.1)→zf0 n true l=l
 | [],_=>rfl
 | x::r,h=>by
  unfold zf0
  rw[if_neg (h x (by simp)),if_neg (by simp),zro fun y hy=>h y (by simp[hy])]
theorem zte {n:Int×Int} {l:List (Int×Int)} (h:∀ x∈l,n.1<x.1):zf0 n false l=n::l:=by
 cases l with
 | nil=>rfl
 | cons x r=>
  unfold zf0
  have h1:=h x (by simp)
  rw[if_neg (by omega),if_pos ⟨rfl,h1⟩,zro fun y hy=>by have:=h y (by simp[hy]);omega]
theorem zrp {c:Int} (hc:0<c):∀ (u:List Int) (k d:Nat),d<u.length→zf0 (((k+d:Nat):Int),c) false (zau k u)=zau k (u.set d c)
 | [],_,_,h=>by simp at h
 | n::r,k,d,h=>by
  cases d with
  | zero=>
   have hfar:∀ x∈zau (k+1) r,((((k+0:Nat):Int),c):Int×Int).1<x.1:=fun x hx=>by
    have:=zef r (k+1) x hx;dsimp only;omega
   have e2:zau k ((n::r).set 0 c)=((k:Int),c)::zau (k+1) r:=by simp[zau,hc]
   have e1:zau k (n::r)=if 0<n then ((k:Int),n)::zau (k+1) r else zau (k+1) r:=rfl
   rw[e2,e1]
   split
   ·rw[zf0,if_pos (by simp),zte hfar]
    simp
   ·rw[zte hfar]
    simp
  | succ d=>
   have ih:=zrp hc r (k+1) d (by simpa using h)
   rw[show k+1+d=k+(d+1) by omega] at ih
   have e1:zau k (n::r)=if 0<n then ((k:Int),n)::zau (k+1) r else zau (k+1) r:=rfl
   have e2:zau k ((n::r).set (d+1) c)=if 0<n then ((k:Int),n)::zau (k+1) (r.set d c) else zau (k+1) (r.set d c):=rfl
   rw[e1,e2]
   split
   ·rw[zf0,if_neg (by dsimp only;omega),if_neg (by dsimp only;omega),ih]
   ·exact ih
theorem zyJ:zad (List.replicate 64 0)=[]:=by decide
theorem zBb {u:List Int} {d:Nat} {c:Int} (h:c≤u.getD d 0) (hd:d<u.length):u.set d (max (u.getD d 0) c)=u:=by
 rw[Int.max_eq_left h]
 apply List.ext_getElem?
 intro i
 rw[List.getElem?_set]
 split
 ·rename_i e;subst e
  simp[List.getD_eq_getElem?_getD,hd]
 ·rfl
end Go.Proofs.YtpdkkbpkplhdpaaGreat
namespace Go.Proofs.YtpdkkbpkplhdpaaGreat
open Go Go.Vm
attribute [local irreducible] Brn Ob Grow CallsM inR zaD zaC Mem.row Mem.cells Mem.setCells Mem.upd Go.Vm.Own zaG za7 za9 zaR New SrcOk subA NewSl Mem.textAt Mem.mapAt Mem.iterAt zaB zam Wr NewEls Elems
set_option maxRecDepth 10000
section
variable {M:Mem}
structure MX where
 id:IdT
 a:Option Addr
 c:Nat
 p:List UInt8
@[reducible] def MX.msg (x:MX):zbs:=⟨x.id,x.p⟩
@[reducible] def zyK (x:MX):List Value:=[.int .i64 x.id.o,.int .i64 x.id.d,.int .i64 x.id.e,.int .i64 x.id.c,.slice x.a x.p.length x.c]
theorem zlN (x:MX):(zyK x).length=5:=rfl
@[reducible] def zg9 (n:Int×Int):List Value:=[.int .i64 n.1,.int .i64 n.2]
theorem zf9 (n:Int×Int):(zg9 n).length=2:=rfl
structure MsgsR (M:Mem) (a:Option Addr) (n:Nat) (ms:List MX):Prop where
 row:SrcOk M 5 a n (ms.flatMap zyK)
 data:∀ m∈ms,SrcOk M 1 m.a m.p.length (m.p.map zh)
theorem MsgsR.le {a:Option Addr} {n:Nat} {ms:List MX} (h:MsgsR M a n ms) {M':Mem} (hle:M.le M'):MsgsR M' a n ms:=⟨h.row.le hle,fun m hm=>(h.data m hm).le hle⟩
theorem MsgsR.len {a:Option Addr} {n:Nat} {ms:List MX} (h:MsgsR M a n ms):ms.length=n:=h.row.flen zlN (by decide)
structure zp7 where
 ua:Option Addr
 un:Nat
 uc:Nat
 la:Option Addr
 ln:Nat
 lc:Nat
 ka:Option Addr
 kn:Nat
 kc:Nat
@[reducible] def zDH (S:StR) (D:zp7):Value := .agg #[.int .i64 S.self,.int .i64 S.qh,.int .i64 S.qb,.int .i64 S.qg,.int .i64 S.epoch,.slice D.ua D.un D.uc,.slice D.la D.ln D.lc,.int .i64 S.qg,.slice D.ka D.kn D.kc]
structure zEd (M:Mem) (S:StR) (L:List K) (D:zp7) (ms:List MX):Prop where
 used:SrcOk M 2 D.ua D.un ((zad S.used).flatMap zg9)
 row:MsgsR M D.la D.ln ms
 msgs:ms.map MX.msg=S.l
 keys:SrcOk M 3 D.ka D.kn (L.flatMap zED)
 few:D.kn≤4000000
variable {S:StR} {L:List K} {D:zp7} {ms:List MX}
end
section
variable {M:Mem} {S:StR} {L:List K} {D:zp7} {ms:List MX}
theorem zij (n most:Int):CallsM Tryz.prog F.zdF [.int .i64 n,.int .i64 most] M fun v M'=>v = .bool (decide (0≤n∧n≤most))∧M=M':=by
 refine zqK (by simp) ?_
 (conv=>whnf);refine brn (fun h=>?_) (fun h=>?_)
 all_goals (conv=>whnf)
 ·exact⟨by have:=Zd0 h;simp_all,rfl⟩
 ·exact⟨by have:=Zd1 h;simp_all;omega,rfl⟩
theorem zz4 (self qh qb qg:Int):CallsM Tryz.prog F.zj4 [.int .i64 self,.agg #[.int .i64 qh,.int .i64 qb,.int .i64 qg]] M fun v M'=>
  (zbn self qh qb qg∧v = .tuple #[zDH ⟨0,0,0,0,0,[],[]⟩ ⟨none,0,0,none,0,0,none,0,0⟩,.int .i64 1]∧M=M') ∨
  (¬zbn self qh qb qg∧v = .tuple #[zDH (zfg self qh qb qg) ⟨none,0,0,none,0,0,none,0,0⟩,.int .i64 0]∧M=M'):=by
 refine zuL (by simp) ?_
 refine zR ?_
 refine(zij _ _).mono ?_
 rintro v _ ⟨rfl,rfl⟩
 (conv=>whnf);refine brn (fun g=>?_) (fun g=>?_)
 ·(conv=>whnf)
  refine zR ?_
  exact .inl ⟨by unfold zbn;simp only[Bool.not_eq_true',decide_eq_false_iff_not] at *; omega,rfl,rfl⟩
 (conv=>whnf);refine(zij _ _).mono ?_
 rintro v _ ⟨rfl,rfl⟩
 (conv=>whnf);refine brn (fun g1=>?_) (fun g1=>?_)
 ·(conv=>whnf)
  refine zR ?_
  exact .inl ⟨by unfold zbn;simp only[Bool.not_eq_true',decide_eq_false_iff_not] at *; omega,rfl,rfl⟩
 (conv=>whnf);refine(zij _ _).mono ?_
 rintro v _ ⟨rfl,rfl⟩
 (conv=>whnf);refine brn (fun g2=>?_) (fun g2=>?_)
 ·(conv=>whnf)
  refine zR ?_
  exact .inl ⟨by unfold zbn;simp only[Bool.not_eq_true',decide_eq_false_iff_not] at *; omega,rfl,rfl⟩
 (conv=>whnf);refine(zij _ _).mono ?_
 rintro v _ ⟨rfl,rfl⟩
 (conv=>whnf);refine brn (fun g3=>?_) (fun g3=>?_)
 ·(conv=>whnf)
  refine zR ?_
  exact .inl ⟨by unfold zbn;simp only[Bool.not_eq_true',decide_eq_false_iff_not] at *; omega,rfl,rfl⟩
 have hn:¬zbn self qh qb qg:=by
  unfold zbn
  simp only[Bool.not_eq_false',decide_eq_true_eq] at *
  omega
 refine zR ?_
 exact .inr ⟨hn,rfl,rfl⟩
end
section
variable {M M0:Mem} {p b sp sb:Nat} {S:StR} {came:Int} {xs:HsT} {es:EsT}
theorem StAt.some (h:StAt M p b sp sb S came xs es) (hE:InvE es) (hg:(zaH es:Int)≤S.qg∧S.qg≤256) {y:Nat} (hy:stB p b sp sb xs es y):M y≠none:=by
 rcases hy with rfl|rfl|⟨q,hq,hy⟩|hy
 ·have:=h.self;unfold Mem.has at this;rw[this];simp
 ·obtain⟨l,c,hh,_⟩:=h.map;rw[hh];simp
 ·obtain⟨cs,hc⟩:=h.dhas hq hy
  unfold Mem.has at hc;rw[hc];simp
 ·have hF:FreshS (M.minus (setB sp sb es)) M sp sb S.qg es:=⟨Mem.minus_le _ _,h.set,hE,hg,fun _ hy=>Mem.minus_in hy⟩
  exact hF.some hy
theorem FreshSt.some (h:FreshSt M0 M p b sp sb S came xs es) {y:Nat} (hy:stB p b sp sb xs es y):M y≠none:=h.at'.some h.invE h.room hy
theorem FreshSt.base (h:FreshSt M0 M p b sp sb S came xs es):FreshSt (M.minus (stB p b sp sb xs es)) M p b sp sb S came xs es∧M0.le (M.minus (stB p b sp sb xs es)):=
 ⟨⟨Mem.minus_le _ _,h.at',h.inv,h.invE,h.room,fun _ hy=>Mem.minus_in hy⟩,Mem.le_minus h.le h.fresh⟩
structure EvX where
 kind:Int
 id:IdT
 p:List UInt8
end
section
variable {M B:Mem} {p b sp sb:Nat} {S:StR} {came:Int} {xs:HsT} {es:EsT} {L:List K} {D:zp7} {ms:List MX}
structure zE0 (B M:Mem) (p b sp sb:Nat) (S:StR) (came:Int) (xs:HsT) (es:EsT) (L:List K) (D:zp7) (ms:List MX):Prop where
 own:FreshSt B M p b sp sb S came xs es
 doc:zEd B S L D ms
 rel:zEG es L
structure StB where
 i:Nat
 mem:Mem
 B:Mem
 S:StR
 came:Int
 xs:HsT
 es:EsT
 L:List K
 D:zp7
 ms:List MX
def zEe (Q:StR→EsT→Prop):Prop:=∀ (S:StR) (es es':EsT) (k:Int) (i:IdT) (p:List UInt8),zdA S→InvE es→Q S es →
 (if za3 S (zdr S es) k i p.length=0∧k=4 then zyG S.qg es es' i.o i.d i.e i.c else es'=es)→Q (if za3 S (zdr S es) k i p.length=0 then zP S k i p else S) es'
end
section
variable {M M0:Mem} {p b sp sb:Nat} {S:StR} {came:Int} {xs:HsT} {es:EsT}
@[reducible] def zp8 (x:PX):List Value:=[.int .i64 x.id.o,.int .i64 x.id.d,.int .i64 x.id.e,.int .i64 x.id.c,.slice x.a x.p.length x.c,.int .i64 x.n]
theorem zlO (x:PX):(zp8 x).length=6:=rfl
theorem zBc (x:PX):∀ v∈zp8 x,v.oneCell'=true:=by
 intro v hv
 simp only[zp8,List.mem_cons,List.not_mem_nil,or_false] at hv
 rcases hv with rfl|rfl|rfl|rfl|rfl|rfl<;>rfl
structure PB where
 x:PX
 h:0≤x.n∧x.n≤4611686018427387904
instance:Inhabited PB:=⟨⟨⟨⟨0,0,0,0⟩,none,0,[],0⟩,by simp⟩⟩
def zvK (x:PB):List Value:=zp8 x.x
def zsL (x y:PB):Int:=x.x.n - y.x.n
theorem zCw (x y:PB):CallsM Tryz.prog F.zdw [.agg (zvK x).toArray,.agg (zvK y).toArray] M fun v _=>v = .int .i64 (zsL x y):=by
 obtain⟨x,hx⟩:=x
 obtain⟨y,hy⟩:=y
 unfold zvK zsL
 refine zkV (by simp) ?_
 (conv=>whnf);refine ob (ze (by first|omega|(dsimp only;omega))) ?_
 (conv=>whnf)
theorem zBd:Go.Sort.SWO (Go.Proofs.ltOf zsL):=by
 have h:∀ x y:PB,Go.Proofs.ltOf zsL x y=decide (x.x.n<y.x.n):=fun x y=>by
  unfold Go.Proofs.ltOf zsL
  rw[decide_eq_decide]
  omega
 refine⟨fun x=>?_,fun x y z=>?_,fun x y z=>?_⟩<;>simp only[h,decide_eq_true_eq,decide_eq_false_iff_not]<;>omega
theorem zoY:∀ {l l':List PX},l.Perm l'→l.Pairwise (fun x y=>x.n<y.n)→l'.Pairwise (fun x y=>x.n≤y.n)→l=l'
 | [],l',hp,_,_=>(List.nil_perm.1 hp).symm
 | x::r,l',hp,h1,h2=>by
  cases l' with
  | nil=>exact absurd hp.length_eq (by simp)
  | cons y r'=>
   have hxy:x=y:=by
    rcases List.mem_cons.1 (hp.mem_iff.1 (by simp:x∈x::r)) with e|e
    ·exact e
    ·rcases List.mem_cons.1 (hp.mem_iff.2 (by simp:y∈y::r')) with e'|e'
     ·exact e'.symm
     ·have g1:=(List.pairwise_cons.1 h1).1 y e'
      have g2:=(List.pairwise_cons.1 h2).1 x e
      omega
   subst hxy
   rw[zoY (List.Perm.cons_inv hp) (List.pairwise_cons.1 h1).2 (List.pairwise_cons.1 h2).2]
theorem zBP:∀ (l:List PX),(∀ x∈l,0≤x.n∧x.n≤4611686018427387904)→∃ l':List PB,l'.map PB.x=l
 | [],_=>⟨[],rfl⟩
 | x::r,h=>by
  obtain⟨r',hr⟩:=zBP r fun y hy=>h y (by simp[hy])
  exact⟨⟨x,h x (by simp)⟩::r',by simp[hr]⟩
theorem ztf (l:List PB):l.flatMap zvK=(l.map PB.x).flatMap zp8:=by
 rw[List.flatMap_map];rfl
structure HeldAt (M0:Mem) (a:Option Addr) (n c:Nat) (ms:List MX) (M':Mem):Prop where
 row:NewSl M0 T.zmP 5 a n c (ms.flatMap zyK) M'
 data:∀ m∈ms,NewSl M0 T.zm 1 m.a m.p.length m.c (m.p.map zh) M'
 apart:ms.Pairwise fun x y=>∀ z,blk x.a z→¬blk y.a z
theorem HeldAt.msgs {a:Option Addr} {n c:Nat} {ms:List MX} {M':Mem} (h:HeldAt M0 a n c ms M'):MsgsR M' a n ms:=⟨h.row.src,fun m hm=>(h.data m hm).src⟩
theorem HeldAt.up {a:Option Addr} {n c:Nat} {ms:List MX} {M' M2:Mem} (h:HeldAt M0 a n c ms M') (hle:M'.le M2):HeldAt M0 a n c ms M2:=⟨h.row.up hle,fun m hm=>(h.data m hm).up hle,h.apart⟩
theorem HeldAt.len {a:Option Addr} {n c:Nat} {ms:List MX} {M':Mem} (h:HeldAt M0 a n c ms M'):ms.length=n:=h.row.src.flen zlN (by decide)
@[reducible] def zDI (x:PX) (a:Option Addr) (c:Nat):MX:=⟨x.id,a,c,x.p⟩
theorem zxj (h:FreshSt M0 M p b sp sb S came xs es) (hcm:came≤4611686018427387904):CallsM Tryz.prog F.zd7 [ptr p] M fun v M'=>
  ∃ a n c ms,v = .slice a n c∧HeldAt M a n c ms M'∧ms.map MX.msg=S.l:=by
 refine zmo (by simp) ?_
 have hA:=h.at'
 have hI:=h.inv
 have hqh:=hI.qh
 have hxl:xs.length=S.l.length:=by rw[←hA.held,List.length_map]
 have hpl:∀ q∈xs,q.2.p.length≤48:=fun q hq=>by
  have hm:q.2.msg∈S.l:=by rw[←hA.held];exact List.mem_map.2 ⟨q,hq,rfl⟩
  exact(za6 (hI.msgs _ hm).1).2.2
 (conv=>whnf);refine brn_f rfl ?_
 (conv=>whnf);refine on (hA.self.c1 (zeO hI.ulen ..)) ?_
 (conv=>whnf)
 refine hA.map.range fun q bi hbi hIt=>?_
 replace hbi:M bi=none:=hbi
 (conv=>whnf)
 refine zbh (σ:=Mem×(Option Addr×Nat×Nat)×List PX×HsT) [3] (fun x=>[(3,.slice x.2.1.1 x.2.1.2.1 x.2.1.2.2)]) (fun _=>[]) (fun x=>x.1)
  (fun|⟨M1,(a,n,c),l,todo⟩=>NewSl M T.zl4 6 a n c (l.flatMap zp8) M1∧Iter idA pxV M1 bi b xs todo∧(l++todo.map (·.2)).Perm (xs.map (·.2))) (fun x=>x.2.2.2.length) ⟨_,(none,0,0),[],xs⟩
  ⟨(NewSl.none M _ _).up (Mem.le_upd hbi),hIt,.refl _⟩ zS ?_
 rintro ⟨M1,⟨a,n,c⟩,l,todo⟩ ⟨hN,hI1,hperm⟩
 (conv=>whnf)
 refine hI1.next (fun h0=>?_) (fun i k todo' o' hperm2 hI2 hent=>?_)
 ·subst h0
  simp only[List.map_nil,List.append_nil] at hperm
  have hll:l.length=n:=hN.src.flen zlO (by decide)
  have hbl:∀ x∈l,0≤x.n∧x.n≤4611686018427387904:=fun x hx=>by
   obtain⟨q,hq,rfl⟩:=List.mem_map.1 (hperm.mem_iff.1 hx)
   have:=hA.came.2 q hq
   omega
  obtain⟨lb,rfl⟩:=zBP l hbl
  rw[←ztf] at hN
  have hnx:n=xs.length:=by have:=hperm.length_eq;simp at this hll;omega
  refine zR ?_
  refine(zvA Tryz.laysP (by kernel_rfl) (enc:=zvK) (k:=6) (by decide) Tryz.isAgg175 Tryz.sizeOf175 (fun x:PB=>zlO x.x) (fun x:PB=>zBc x.x) zBd (g:=F.zdw) (fun args w=>zhR (by kernel_rfl) args w) (fun x y=>zCw x y) hN.wr (by omega)).mono ?_
  rintro v M5 ⟨rfl,l',hp',hs',hw',hk'⟩
  have hN5:=hN.ofWr hw' hk' rfl
  rw[ztf] at hN5
  have hl':l'.map PB.x=xs.map (·.2):=by
   refine(zoY ((hp'.map PB.x).trans hperm).symm ?_ ?_).symm
   ·rw[List.pairwise_map];exact hA.ord
   ·rw[List.pairwise_map]
    refine hs'.imp fun {x y} hxy=>?_
    unfold zsL at hxy
    omega
  rw[hl'] at hN5
  have hle5:M.le M5:=hN5.le
  (conv=>whnf)
  refine zbh (σ:=Nat×Mem×(Option Addr×Nat)×List MX) [28,6] (fun x=>[(28,.int .i64 x.1),(6,.slice x.2.2.1.1 x.2.2.2.length x.2.2.1.2)]) (fun _=>[]) (fun x=>x.2.1)
   (fun|⟨j,M6,(a6,c6),ms⟩=>j≤n∧HeldAt M5 a6 ms.length c6 ms M6∧ms.map MX.msg=(xs.take j).map (fun q=>q.2.msg)) (fun x=>n - x.1) ⟨0,M5,(none,0),[]⟩
   ⟨by omega,⟨NewSl.none M5 _ _,by simp,by simp⟩,by simp⟩ zS ?_
  rintro ⟨j,M6,⟨a6,c6⟩,ms⟩ ⟨hj,hH,hms⟩
  have hle6:=hH.row.le
  have hmsl:ms.length=j:=by have:=congrArg List.length hms;simp at this;omega
  (conv=>whnf);refine brn (fun g=>?_) (fun g=>?_)
  rotate_left
  ·have hge:n≤j:=by have:=Zd1 g;dsimp only at this;omega
   rw[List.take_of_length_le (by omega),hA.held] at hms
   refine zR ?_
   exact⟨a6,_,c6,ms,rfl,⟨hH.row.mono hle5,fun m hm=>(hH.data m hm).mono hle5,hH.apart⟩,hms⟩
  have hlt:j<n:=by have:=Zd0 g;dsimp only at this;omega
  have hjx:j<xs.length:=by omega
  have hx:(xs.map (·.2))[j]? = some xs[j].2:=by rw[List.getElem?_map,List.getElem?_eq_getElem hjx];rfl
  obtain⟨b1,o1,ha,hcc⟩:=hN5.src.fparts zlO (by decide) hx
  have htk:xs.take (j+1)=xs.take j++[xs[j]]:=by rw[List.take_add_one,List.getElem?_eq_getElem hjx];rfl
  have hmem:xs[j]∈xs:=List.getElem_mem _
  generalize xs[j]=q at *
  have hd6:=(hA.data q hmem).src.le (Mem.le_trans hle5 hle6)
  have hq48:=hpl q hmem
  (conv=>whnf);refine ob (by first|omega|(dsimp only;omega)) ?_
  (conv=>whnf);refine atp ha ?_
  (conv=>whnf);refine on (Mem.row_le hle6 (hcc 0 6 (by decide))) ?_
  refine zR ?_
  refine new (fun b9 hb9=>?_)
  replace hb9:M6 b9=none:=hb9
  have hN7:NewSl M6 T.zm 1 (some ⟨b9,0,none⟩) 0 0 (([]:List UInt8).map zh) _:=NewSl.lit hb9 T.zm 1 0 [] rfl
  obtain⟨M7,hM7⟩:∃ M7,M7=M6.setCells b9 T.zm []:=⟨_,rfl⟩
  rw[←hM7] at hN7
  (conv=>whnf)
  erw [←hM7]
  refine zR ?_
  refine zdW (hd6.le hN7.le) ?_
  (conv=>whnf);refine ze8 M6 _ hN7 (by first|omega|(dsimp only;omega)) (by simp[maxLen]<;>omega) (zcd _) fun a8 c8 M8 hN8=>?_
  rw[Nat.zero_add q.2.p.length] at hN8
  rw[Nat.zero_add q.2.p.length]
  have hH8:=hH.up hN8.le
  refine zT (hN8.le) ?_
  refine zR ?_
  refine zlu M5 hH8.row (zDI q.2 a8 c8) rfl (by first|omega|(dsimp only;omega)) (by simp[maxLen];omega) (by simp[Value.oneCell']) fun a9 c9 M9 hN9 hk9=>?_
  have hfr:∀ y,blk a6 y→M5 y=none:=fun y ⟨q,hq,e⟩=>e▸(hH8.row.block hq).1
  have hnew:NewSl M5 T.zm 1 a8 q.2.p.length c8 (q.2.p.map zh) M8:=hN8.mono hle6
  refine zR ?_
  refine ob (ze (by first|omega|(dsimp only;omega))) ?_
  (conv=>whnf)
  refine⟨⟨j+1,M9,(a9,c9),ms++[zDI q.2 a8 c8]⟩,⟨by omega,⟨by simpa using hN9,fun m hm=>?_,?_⟩,?_⟩,by dsimp only;omega,?_⟩
  ·rcases List.mem_append.1 hm with hm|hm
   ·exact(hH8.data m hm).keep hk9 hfr fun q hq ⟨q',hq',e⟩=>hH8.row.ne (hH8.data m hm) (by decide) hq' hq e
   ·simp only[List.mem_singleton] at hm
    subst hm
    exact hnew.keep hk9 hfr fun q hq ⟨q',hq',e⟩=>hH8.row.ne hnew (by decide) hq' hq e
  ·rw[List.pairwise_append]
   refine⟨hH.apart,by simp,fun m hm y hy z hz hz'=>?_⟩
   simp only[List.mem_singleton] at hy
   subst hy
   obtain⟨q1,hq1,e1⟩:=hz
   obtain⟨q2,hq2,e2⟩:=hz'
   obtain⟨_,cs,hh⟩:=(hH.data m hm).block hq1
   have h0:=(hN8.block hq2).1
   unfold Mem.has at hh
   rw[e2,←e1,hh] at h0
   cases h0
  ·rw[List.map_append,hms,htk,List.map_append];rfl
  ·simp only[List.length_append,List.length_cons,List.length_nil]
   exact zS
 ·have hk2:Mem.keep (fun y=>y=bi) M1 (M1.upd bi o'):=Mem.keep_upd _ _ rfl
  have hN2:NewSl M T.zl4 6 a n c (l.flatMap zp8) (M1.upd bi o'):=hN.keep hk2 (fun y e=>e▸hbi) (fun q hq e=>by
   obtain⟨_,cs,hh⟩:=hN.block hq
   exact(hI1.nb hh).1 e)
  obtain⟨M2,hM2⟩:∃ M2,M2=M1.upd bi o':=⟨_,rfl⟩
  rw[←hM2] at hI2 hent hN2
  have hlt:l.length<xs.length:=by have:=hperm.length_eq;have:=hperm2.length_eq;simp at *; omega
  have hll:l.length=n:=hN2.src.flen zlO (by decide)
  (conv=>whnf)
  erw [←hM2]
  refine zR ?_
  refine on hent ?_
  refine zR ?_
  refine zlu M hN2 k (by simp) (by first|omega|(dsimp only;omega)) (by simp[maxLen];omega) (by simp[Value.oneCell']) fun a6 c6 M6 hN6 hk6=>?_
  have hnb:∀ y,blk a y→y≠bi∧y≠b:=fun y ⟨q,hq,e⟩=>by
   obtain⟨_,cs,hh⟩:=hN2.block hq
   exact e▸hI2.nb hh
  have hI6:=hI2.keep hk6 (fun hb=>(hnb _ hb).1 rfl) (fun hb=>(hnb _ hb).2 rfl)
  (conv=>whnf)
  refine⟨⟨M6,(a6,n+1,c6),l++[k],todo'⟩,⟨hN6,hI6,?_⟩,by have:=hperm2.length_eq;simp at this ⊢; omega,zS⟩
  refine List.Perm.trans ?_ hperm
  rw[List.append_assoc]
  refine List.Perm.append_left _ ?_
  have:=hperm2.map (·.2)
  simpa using this.symm
end
end Go.Proofs.YtpdkkbpkplhdpaaGreat
