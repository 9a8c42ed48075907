/- Part of this proof;laid by program. -/
import Derived.Test.YtpdkkbpkplhdpaaGreatJ23
import Derived.Test.YtpdkkbpkplhdpaaGreatJ22
import Derived.Test.YtpdkkbpkplhdpaaGreatJ15
import Derived.Test.YtpdkkbpkplhdpaaGreatJ10
set_option linter.unusedVariables false
set_option linter.unusedSimpArgs false
namespace Go.Proofs.YtpdkkbpkplhdpaaGreat
open Go Go.Vm
attribute [local irreducible] Brn Ob Grow CallsM inR zax zav Mem.row Mem.cells Mem.setCells Mem.upd Go.Vm.Own zaD za5 zbc zaJ New SrcOk subA NewSl Mem.textAt Mem.mapAt Mem.iterAt zau zaj Wr NewEls Elems
set_option maxRecDepth 10000
variable {M:Mem} {self epoch:Int} {ul:NxT} {ms:List MX} {mk:List MkC}
@[reducible] def mkS (self qh qb qg epoch:Int) (u:List Int) (l:List zby):StR:=⟨self,qh,qb,qg,epoch,u,l⟩
theorem Nx.take {me ep:Int} {l:NxT} (h:Nx me ep l) (k:Nat):Nx me ep (l.take k):=
 ⟨fun n hn=>h.each n (List.mem_of_mem_take hn),h.sort.sublist (List.take_sublist _ _),fun hne=>h.some (fun e=>hne (by simp[e]))⟩
theorem zsZ (S:StR) (b:Nat) (came bytes:Int) (sp:Nat) (v:Int):ze (zH S b came bytes sp) 4 [.int .i64 v]=zH { S with epoch:=v } b came bytes sp:=by simp[ze,zH]
theorem zxE (S:StR) (b:Nat) (came bytes:Int) (sp:Nat) (v:Int):ze (zH S b came bytes sp) 1 [.int .i64 v]=zH { S with qh:=v } b came bytes sp:=by simp[ze,zH]
theorem zxF (S:StR) (b:Nat) (came bytes:Int) (sp:Nat) (v:Int):ze (zH S b came bytes sp) 2 [.int .i64 v]=zH { S with qb:=v } b came bytes sp:=by simp[ze,zH]
theorem zzv (S:StR) (b:Nat) (came bytes:Int) (sp:Nat) (x y z:Int):ze (zH S b came bytes sp) 1 [.int .i64 x,.int .i64 y,.int .i64 z]=zH { S with qh:=x,qb:=y,qg:=z } b came bytes sp:=by simp[ze,zH]
theorem zws {S:StR} (hu:S.used.length=64) (b:Nat) (came bytes:Int) (sp sp':Nat):ze (zH S b came bytes sp) 72 [ptr sp']=zH S b came bytes sp':=by
 have e:∀ w,zH S b came bytes w=([.int .i64 S.self,.int .i64 S.qh,.int .i64 S.qb,.int .i64 S.qg,.int .i64 S.epoch]++S.used.map zaa++[.map (some b),.int .i64 came,.int .i64 bytes])++ptr w::[]:=fun w=>by simp[zH]
 rw[e,e,zoj (by simp[hu])]
theorem zrO:∀ {l:List zby},(∀ m∈l,m.p.length≤48)→zm l≤48*l.length
 | [],_=>by simp[zm]
 | x::r,h=>by
  have ih:=zrO (l:=r) fun m hm=>h m (by simp[hm])
  have hx:=h x (by simp);simp only[zm,List.map_cons,List.sum_cons,List.length_cons] at ih ⊢;omega
theorem zAM {S:StR} {set:IdT→Int} {i:IdT} {n:Nat} (h1:zdm i n=0) (h2:i.d≠S.self) (h3:¬(i.o=S.self∧S.epoch<i.e)) (h4:zda S.l i=false) (h5:(S.l.length:Int)<S.qh) (h6:(zm S.l:Int)+n≤S.qb):zag S set 2 i n=0:=by
 have hf:zaF 2 i n=0:=by unfold zaF;rw[if_neg (by decide),if_pos rfl];exact h1
 unfold zag;rw[if_neg (by simp[hf]),if_neg (by decide),if_pos rfl,if_neg (by omega),h4,if_neg (by decide),if_neg (by omega)]
theorem zxG (self qh qb qg epoch:Int) (u:List Int) (l:List zby) (m:zby):zJ (mkS self qh qb qg epoch (zcW self epoch u l) l) 2 m.id m.p=mkS self qh qb qg epoch (zcW self epoch u (l++[m])) (l++[m]):=by
 unfold zJ;rw[if_neg (by decide),if_pos rfl,zzt];rfl
theorem zAN {self epoch:Int} {ul:NxT} {hs:List zby} (h:zrK self epoch ul hs) {k:Nat} (hk:k<hs.length):zda (hs.take k) hs[k].id=false:=by
 rw[←Bool.not_eq_true,zBZ];intro hm;have h2:=h.2
 have hsplit:hs=hs.take k++hs[k]::hs.drop (k+1):=by conv=>lhs;rw[←List.take_append_drop k hs,List.drop_eq_getElem_cons hk]
 rw[hsplit,List.map_append,List.nodup_append] at h2;exact h2.2.2 _ hm hs[k].id (List.mem_map.2 ⟨hs[k],List.mem_cons_self .., rfl⟩) rfl
theorem zAO {p b sp sb:Nat} {S:StR} {came:Int} {xs:HsT} {es:EsT} (hA:StAt M p b sp sb S came xs es) (hu:S.used.length=64):M.row p 5 64=some (zzr (fun i=>S.used.getD i 0)):=by
 rw[hA.self.row (by rw[zcU hu];omega),←zAK hu];congr 1;unfold zH;rw[List.append_assoc,List.drop_append];simp[hu]
theorem zCv {u w:List Int} (hu:u.length=64) (hw:w.length=64):(List.range 64).all (fun i=>decide (u.getD i 0=w.getD i 0))=true↔u=w:=by
 rw[List.all_eq_true];constructor
 ·intro h;apply List.ext_getElem (by omega);intro i h1 h2;have:=Zd0 (h i (List.mem_range.2 (by omega)))
  rw[List.getD_eq_getElem?_getD,List.getD_eq_getElem?_getD,List.getElem?_eq_getElem h1,List.getElem?_eq_getElem h2] at this;exact this
 ·rintro rfl i _;exact decide_eq_true rfl
theorem ztz (self epoch:Int):∀ (hs:List zby) (u:List Int),(zcW self epoch u hs).length=u.length
 | [],_=>rfl
 | x::r,u=>by
  have e:zcW self epoch u (x::r)=zcW self epoch (if x.id.o=self∧x.id.e=epoch then u.set x.id.d.toNat (max (u.getD x.id.d.toNat 0) x.id.c) else u) r:=rfl;rw[e,ztz self epoch r];split<;>simp
theorem zAP {self epoch:Int} {ul:NxT} {hs:List zby} (hN:Nx self epoch ul) (hI:∀ m∈hs,zdm m.id m.p.length=0∧m.id.d≠self∧(m.id.o=self→m.id.e≤epoch)) (hn:(hs.map (·.id)).Nodup):zrK self epoch ul hs↔zcW self epoch (zaL ul) hs=zaL ul:=by
 have hd:∀ m∈hs,0≤m.id.d∧m.id.d.toNat<(zaL ul).length:=fun m hm=>by
  have:=zfH (za8 (hI m hm).1).1;rw[zb8];omega
 constructor
 ·intro h;refine zrN hs _ fun m hm hc=>⟨(hd m hm).2,?_⟩
  rw[←zmw hN (hd m hm).1];rcases(h.1 m hm).2.2 hc.1 with h1|h1
  ·omega
  ·exact h1.2
 ·intro h;refine⟨fun m hm=>⟨(hI m hm).1,(hI m hm).2.1,fun ho=>?_⟩,hn⟩;have h1:=(hI m hm).2.2 ho
  by_cases he:m.id.e=epoch
  ·refine .inr ⟨he,?_⟩;have:=(zwr hs (zaL ul) (fun m hm _=>(hd m hm).2)).2 m hm ⟨ho,he⟩
   rw[h] at this;rw[zmw hN (hd m hm).1];exact this
  ·exact .inl (by omega)
def zs0 (qh qb qg self epoch:Int) (ul:NxT) (hs:List zby) (mks:List Mk) (M:Mem) (v:Value) (M':Mem):Prop:=
 ∃ e,CheckS qh qb qg self epoch ul hs mks e∧((e≠0∧v = .tuple #[.pointer none,.int .i64 e]∧M.le M') ∨
  (e=0∧∃ p b sp sb came xs es,v = .tuple #[ptr p,.int .i64 0]∧FreshSt M M' p b sp sb (mkS self qh qb qg epoch (zaL ul) hs) came xs es∧came≤hs.length∧es.map zbe=mks))
theorem ztA (qh qb qg:Int) {ua ha ma:Option Addr} {un uc hn hc mn mc:Nat} (h:StatR M ua un ha hn ma mn ul ms mk) (hB:zB0 ms mk un hn hc mn) :
  CallsM Tryz.prog F.zg6 [.agg #[.int .i64 qh,.int .i64 qb,.int .i64 qg],zhV self epoch ua un uc ha hn hc ma mn mc] M (zs0 qh qb qg self epoch ul (ms.map MX.msg) (mk.map MkC.mk') M):=by
 refine zt2 (by simp) ?_;have hb1:=hB.b1
 have hb2:=hB.b2;have hb4:=hB.b4
 have hhl:=h.held.len;have hml:=h.seen.len
 have hul:=h.used.flen zcD (by decide);refine zR ?_;refine(zwj self qh qb qg).mono ?_;rintro v M1 (⟨hg,rfl,rfl⟩|⟨hg,p,b,sp,sb,rfl,h1⟩)
 ·refine zR ?_;exact⟨1,.inl ⟨hg,rfl⟩,.inl ⟨by decide,rfl,Mem.le_refl _⟩⟩
 have bad:∀ {M':Mem},M.le M'→¬zky self epoch ul (ms.map MX.msg) (mk.map MkC.mk')→zs0 qh qb qg self epoch ul (ms.map MX.msg) (mk.map MkC.mk') M (.tuple #[.pointer none,.int .i64 2]) M':=fun hle hh=>⟨2,.inr (.inl ⟨hg,hh,rfl⟩),.inl ⟨by decide,rfl,hle⟩⟩
 refine zR ?_;refine(zBY (h.used.le h1.le) (by omega)).mono ?_;rintro v _ ⟨bn,rfl,hbn,rfl⟩;(conv=>whnf);refine brn (fun g1=>?_) (fun g1=>?_)
 ·have e1:bn=false:=by simpa using g1
  refine zR ?_;exact bad h1.le (fun hF=>by have:=hbn.2 hF.1;rw[e1] at this;cases this)
 have hN:=hbn.1 (by simpa using g1);have hep:=hN.2
 have hsf:=h1.inv.self;refine zR ?_;refine on h1.at'.self.cells ?_;(conv=>whnf);refine ob (by dsimp only;rw[zcU h1.inv.ulen];omega) ?_
 have hs2:(M1.setCells p T.zo (ze (zH (zfp self qh qb qg) b 0 (zm (zfp self qh qb qg).l) sp) 4 [.int .i64 epoch])).has p T.zo (zH (mkS self qh qb qg epoch (zaL []) []) b 0 0 sp):=by
  rw[zsZ];exact Mem.has_setCells
 have hk2:Mem.keep (fun y=>y=p) M1 (M1.setCells p T.zo (ze (zH (zfp self qh qb qg) b 0 (zm (zfp self qh qb qg).l) sp) 4 [.int .i64 epoch])):=keepS rfl;obtain⟨M2,hM2⟩:∃ M2,M2=M1.setCells p T.zo (ze (zH (zfp self qh qb qg) b 0 (zm (zfp self qh qb qg).l) sp) 4 [.int .i64 epoch]):=⟨_,rfl⟩
 rw[←hM2] at hs2 hk2;have invU:∀ k,zeh (mkS self qh qb qg epoch (zaL (ul.take k)) []):=fun k=>⟨hsf,hep,zb8 _,fun n hn=>zqw (hN.1.take k) n hn,h1.inv.qh,h1.inv.qb,by simp,by simp⟩
 have h2:FreshSt M M2 p b sp sb (mkS self qh qb qg epoch (zaL (ul.take 0)) []) 0 [] []:=by
  refine⟨hk2.le h1.le fun y hy=>h1.fresh y (.inl hy),h1.at'.head (S':=mkS self qh qb qg epoch (zaL []) []) hk2 hs2 rfl rfl (Int.le_refl _),invU 0,h1.invE,h1.room,h1.fresh⟩
 (conv=>whnf);erw [←hM2];(conv=>whnf)
 refine za6 (σ:=Nat×Mem) [37] (fun y=>[(37,.int .i64 y.1)]) (fun _=>[.live T.zgo [.v (.int .i64 qh),.v (.int .i64 qb),.v (.int .i64 qg)],.live T.zaP [.v (.int .i64 self),.v (.int .i64 epoch),.v (.slice ua un uc),.v (.slice ha hn hc),.v (.slice ma mn mc)]]) (fun y=>y.2)
  (fun|⟨i,Mx⟩=>i≤un∧FreshSt M Mx p b sp sb (mkS self qh qb qg epoch (zaL (ul.take i)) []) 0 [] []) (fun y=>un - y.1) ⟨0,M2⟩ ⟨by omega,h2⟩ zS ?_
 rintro ⟨i,Mx⟩ ⟨hi,hx⟩;(conv=>whnf);refine brn (fun g2=>?_) (fun g2=>?_)
 ·have hlt:i<ul.length:=by have:=Zd0 g2;dsimp only at this;omega
  have hxx:ul[i]? = some ul[i]:=List.getElem?_eq_getElem hlt;obtain⟨bx,ox,ha1,hc1⟩:=(h.used.le hx.le).fparts zcD (by decide) hxx;have htk:ul.take (i+1)=ul.take i++[ul[i]]:=by rw[List.take_add_one,hxx];rfl
  have hen:=hN.1.each ul[i] (List.getElem_mem _);generalize ul[i]=n at *;(conv=>whnf);refine ob (by first|omega|(dsimp only;omega)) ?_;(conv=>whnf);refine atp ha1 ?_;(conv=>whnf);refine on (hc1 0 2 (by decide)) ?_;refine zR ?_;refine ob (by omega) ?_;refine zR ?_;refine on hx.at'.self.cells ?_;(conv=>whnf);refine ob (by dsimp only;rw[zcU hx.inv.ulen];omega) ?_
  have hputu:ze (zH (mkS self qh qb qg epoch (zaL (ul.take i)) []) b 0 (zm []) sp) (0+0+5+n.1.toNat*1) [.int .i64 n.2]=zH (mkS self qh qb qg epoch (zaL (ul.take (i+1))) []) b 0 (zm []) sp:=by
   rw[show 0+0+5+n.1.toNat*1=5+n.1.toNat by omega,zmO (zb8 _) _ _ _ (by omega),htk,ztw]
  have hs3:(Mx.setCells p T.zo (ze (zH (mkS self qh qb qg epoch (zaL (ul.take i)) []) b 0 (zm []) sp) (0+0+5+n.1.toNat*1) [.int .i64 n.2])).has p T.zo (zH (mkS self qh qb qg epoch (zaL (ul.take (i+1))) []) b 0 (zm []) sp):=by
   rw[←hputu];exact Mem.has_setCells
  refine zR ?_;refine ob (zd (by first|omega|(dsimp only;omega))) ?_;(conv=>whnf)
  refine⟨⟨i+1,_⟩,⟨by omega,?_⟩,by dsimp only;omega,zS⟩;exact⟨(keepS (X:=fun y=>y=p) rfl).le hx.le fun y hy=>hx.fresh y (.inl hy),hx.at'.head (S':=mkS self qh qb qg epoch (zaL (ul.take (i+1))) []) (keepS rfl) hs3 rfl rfl (Int.le_refl _),invU _,hx.invE,hx.room,hx.fresh⟩
 have hge:un≤i:=by have:=Zd1 g2;dsimp only at this;omega
 rw[List.take_of_length_le (by omega)] at hx;have hrow:=zmu hx.at' hx.inv
 refine zR ?_;refine on hrow ?_;refine zX ?_;refine⟨Mx.minus (fun y=>y=p),Mem.minus_le _ _,?_⟩;refine zX ?_;refine ob (zd (by first|omega|(dsimp only;omega))) ?_;refine zX ?_;refine on hx.at'.self.cells ?_;(conv=>whnf);refine ob (by dsimp only;rw[zcU hx.inv.ulen];omega) ?_
 have hs4:(Mx.setCells p T.zo (ze (zH (mkS self qh qb qg epoch (zaL ul) []) b 0 (zm []) sp) (0+0+1+0) [.int .i64 hn])).has p T.zo (zH (mkS self hn qb qg epoch (zaL ul) []) b 0 0 sp):=by
  rw[show 0+0+1+0=1 from rfl,zxE];exact Mem.has_setCells
 have hk4:Mem.keep (fun y=>y=p) Mx (Mx.setCells p T.zo (ze (zH (mkS self qh qb qg epoch (zaL ul) []) b 0 (zm []) sp) (0+0+1+0) [.int .i64 hn])):=keepS rfl;obtain⟨M4,hM4⟩:∃ M4,M4=Mx.setCells p T.zo (ze (zH (mkS self qh qb qg epoch (zaL ul) []) b 0 (zm []) sp) (0+0+1+0) [.int .i64 hn]):=⟨_,rfl⟩
 rw[←hM4] at hs4 hk4
 have hm4:(Mx.minus (fun y=>y=p)).le M4:=fun y o ho=>by
  unfold Mem.minus at ho;split at ho
  ·cases ho
  ·exact hk4 y o (by assumption) ho
 (conv=>whnf);erw [←hM4];refine zT (hm4) ?_;refine zX ?_;refine on hs4.cells ?_;(conv=>whnf);refine ob (by dsimp only;rw[zcU (S:=mkS self hn qb qg epoch (zaL ul) []) (zb8 ul)];omega) ?_
 have hs5:(M4.setCells p T.zo (ze (zH (mkS self hn qb qg epoch (zaL ul) []) b 0 0 sp) (0+0+1+1) [.int .i64 (48*hn)])).has p T.zo (zH (mkS self hn (48*hn) qg epoch (zaL ul) []) b 0 0 sp):=by
  rw[show 0+0+1+1=2 from rfl,zxF];exact Mem.has_setCells
 have hk5:Mem.keep (fun y=>y=p) Mx (M4.setCells p T.zo (ze (zH (mkS self hn qb qg epoch (zaL ul) []) b 0 0 sp) (0+0+1+1) [.int .i64 (48*hn)])):=Mem.keep_trans hk4 (keepS rfl);obtain⟨M5,hM5⟩:∃ M5,M5=M4.setCells p T.zo (ze (zH (mkS self hn qb qg epoch (zaL ul) []) b 0 0 sp) (0+0+1+1) [.int .i64 (48*hn)]):=⟨_,rfl⟩
 rw[←hM5] at hs5 hk5;(conv=>whnf)
 erw [←hM5]
 have h5:FreshSt M M5 p b sp sb (mkS self hn (48*hn) qg epoch (zaL ul) []) 0 [] []:=by
  refine⟨hk5.le hx.le fun y hy=>hx.fresh y (.inl hy),hx.at'.head (S':=mkS self hn (48*hn) qg epoch (zaL ul) []) hk5 hs5 rfl rfl (Int.le_refl _),?_,hx.invE,hx.room,hx.fresh⟩;have hi2:=hx.inv
  exact⟨hi2.self,hi2.epoch,hi2.ulen,hi2.used,by dsimp only;simp;omega,by dsimp only;simp[zm];omega,by simp,by simp⟩
 obtain⟨hs,hhs⟩:∃ hs,hs=ms.map MX.msg:=⟨_,rfl⟩
 have hsl:hs.length=hn:=by rw[hhs,List.length_map];exact hhl
 rw[←hhs] at bad ⊢;refine zR ?_
 refine za6 (σ:=Nat×Mem×Int×HsT) [72] (fun y=>[(72,.int .i64 y.1)]) (fun _=>[.live T.zgo [.v (.int .i64 qh),.v (.int .i64 qb),.v (.int .i64 qg)],.live T.zaP [.v (.int .i64 self),.v (.int .i64 epoch),.v (.slice ua un uc),.v (.slice ha hn hc),.v (.slice ma mn mc)],.live T.zz8 (zzs fun i=>(zaL ul).getD i 0)]) (fun y=>y.2.1)
  (fun|⟨k,My,came,xs⟩=>k≤hn∧FreshSt M My p b sp sb (mkS self hn (48*hn) qg epoch (zcW self epoch (zaL ul) (hs.take k)) (hs.take k)) came xs []∧came≤k) (fun y=>hn - y.1) ⟨0,M5,0,[]⟩ ⟨by omega,h5,by simp⟩ zS ?_
 rintro ⟨k,My,came,xs⟩ ⟨hk,hy,hcame⟩;(conv=>whnf);refine brn (fun g3=>?_) (fun g3=>?_)
 ·have hlt:k<hs.length:=by have:=Zd0 g3;dsimp only at this;omega
  have hxx:ms[k]? = some ms[k]:=List.getElem?_eq_getElem (by omega);have hmk:hs[k]=ms[k].msg:=by simp[hhs]
  obtain⟨bx,ox,ha1,hc1⟩:=(h.held.row.le hy.le).fparts ze9 (by decide) hxx;have hd:=(h.held.data ms[k] (List.getElem_mem _)).le hy.le
  have hdl:=hB.msgs ms[k] (List.getElem_mem _);have htk:hs.take (k+1)=hs.take k++[hs[k]]:=by rw[List.take_add_one,List.getElem?_eq_getElem hlt];rfl
  have hlk:(hs.take k).length=k:=by simp;omega
  have h48:zm (hs.take k)≤48*k:=by
   have:=zrO (l:=hs.take k) (fun m hm=>(za8 (hy.inv.msgs m hm).1).2.2);omega
  have hno:zag (mkS self hn (48*hn) qg epoch (zcW self epoch (zaL ul) (hs.take k)) (hs.take k)) (zcV (mkS self hn (48*hn) qg epoch (zcW self epoch (zaL ul) (hs.take k)) (hs.take k)) []) 2 ms[k].id ms[k].p.length≠0→¬zrK self epoch ul hs:=fun hne hH=>hne (by
   have hok:=hH.1 hs[k] (List.getElem_mem _);have htake:=zAN hH hlt
   rw[hmk] at hok htake;obtain⟨o1,o2,o3⟩:=hok;have h48':ms[k].p.length≤48:=(za8 o1).2.2
   have o3':ms[k].id.o=self→ms[k].id.e<epoch∨(ms[k].id.e=epoch∧ms[k].id.c≤zdV ul ms[k].id.d):=o3;refine zAM o1 o2 (fun ⟨q1,q2⟩=>?_) htake (by dsimp only;omega) (by dsimp only;omega);have q2':epoch<ms[k].id.e:=q2
   rcases o3' q1 with h|h
   ·omega
   ·omega)
  generalize ms[k]=m at *;(conv=>whnf);refine ob (by first|omega|(dsimp only;omega)) ?_;(conv=>whnf);refine atp ha1 ?_;(conv=>whnf);refine on (hc1 0 5 (by decide)) ?_;refine zR ?_;refine(zrG hy 2 m.id hd hdl (by omega)).mono ?_;rintro v M6 ⟨came6,xs6,es6,rfl,hcc6,h6,hst6⟩;rw[if_neg (by omega)] at hst6;subst hst6;(conv=>whnf);refine brn (fun g4=>?_) (fun g4=>?_)
  ·refine zR ?_;exact bad h6.le (fun hF=>hno (by simpa using g4) hF.2.1)
  ·rw[if_pos (by simpa using g4),show m.id=m.msg.id from rfl,show m.p=m.msg.p from rfl,zxG,←hmk,←htk] at h6;refine zR ?_;refine ob (zd (by first|omega|(dsimp only;omega))) ?_;(conv=>whnf)
   exact⟨⟨k+1,M6,came6,xs6⟩,⟨by omega,h6,by omega⟩,by dsimp only;omega,zS⟩
 have hge3:hn≤k:=by have:=Zd1 g3;dsimp only at this;omega
 rw[List.take_of_length_le (by omega)] at hy;obtain⟨uH,huH⟩:∃ uH,uH=zcW self epoch (zaL ul) hs:=⟨_,rfl⟩
 have huHl:uH.length=64:=by rw[huH,ztz,zb8]
 have hiff:=zAP (hs:=hs) hN.1 hy.inv.msgs hy.inv.nodup;rw[←huH] at hy hiff;refine zR ?_;refine on hy.at'.self.cells ?_;(conv=>whnf);refine ob (by dsimp only;rw[zcU (S:=mkS self hn (48*hn) qg epoch uH hs) huHl];omega) ?_
 have hs7:(My.setCells p T.zo (ze (zH (mkS self hn (48*hn) qg epoch uH hs) b came (zm hs) sp) (0+0+1) [.int .i64 qh,.int .i64 qb,.int .i64 qg])).has p T.zo (zH (mkS self qh qb qg epoch uH hs) b came (zm hs) sp):=by
  rw[show 0+0+1=1 from rfl,zzv];exact Mem.has_setCells
 have hk7:Mem.keep (fun y=>y=p) My (My.setCells p T.zo (ze (zH (mkS self hn (48*hn) qg epoch uH hs) b came (zm hs) sp) (0+0+1) [.int .i64 qh,.int .i64 qb,.int .i64 qg])):=keepS rfl;obtain⟨M7,hM7⟩:∃ M7,M7=My.setCells p T.zo (ze (zH (mkS self hn (48*hn) qg epoch uH hs) b came (zm hs) sp) (0+0+1) [.int .i64 qh,.int .i64 qb,.int .i64 qg]):=⟨_,rfl⟩
 rw[←hM7] at hs7 hk7;(conv=>whnf)
 erw [←hM7];have hle7:M.le M7:=hk7.le hy.le fun y hy'=>hy.fresh y (.inl hy')
 have hA7:StAt M7 p b sp sb (mkS self qh qb qg epoch uH hs) came xs []:=hy.at'.head (S':=mkS self qh qb qg epoch uH hs) hk7 hs7 rfl rfl (Int.le_refl _);refine zR ?_;refine on (zAO hA7 huHl) ?_;(conv=>whnf);refine brn (fun g5=>?_) (fun g5=>?_)
 ·have g6:(!(List.range 64).all (fun i=>decide (uH.getD i 0=(zaL ul).getD i 0)))=true:=g5;refine zR ?_;refine bad hle7 (fun hF=>?_);have:=(zCv huHl (zb8 ul)).2 (hiff.1 hF.2.1)
  rw[this] at g6;cases g6
 have g6:(!(List.range 64).all (fun i=>decide (uH.getD i 0=(zaL ul).getD i 0)))=false:=g5;have huA:uH=zaL ul:=(zCv huHl (zb8 ul)).1 (by simpa using g6)
 have hH:=hiff.2 huA;rw[huA] at hA7;refine zR ?_
 refine za6 (σ:=Nat) [95] (fun k=>[(95,.int .i64 k)]) (fun _=>[.live T.zgo [.v (.int .i64 qh),.v (.int .i64 qb),.v (.int .i64 qg)],.live T.zaP [.v (.int .i64 self),.v (.int .i64 epoch),.v (.slice ua un uc),.v (.slice ha hn hc),.v (.slice ma mn mc)]]) (fun _=>M7)
  (fun k=>k≤mn∧∀ m∈(mk.map MkC.mk').take k,m.o≠self) (fun k=>mn - k) 0 ⟨by omega,by simp⟩ zS ?_
 rintro k2 ⟨hk2',hall⟩;(conv=>whnf);refine brn (fun g7=>?_) (fun g7=>?_)
 ·have hlt:k2<mk.length:=by have:=Zd0 g7;omega
  have hxx:mk[k2]? = some mk[k2]:=List.getElem?_eq_getElem hlt;obtain⟨b1,o1,ha1,hcc⟩:=(h.seen.row.le hle7).fparts zaS (by decide) hxx;have htk:(mk.map MkC.mk').take (k2+1)=(mk.map MkC.mk').take k2++[mk[k2].mk']:=by rw[List.take_add_one,List.getElem?_map,hxx];rfl
  have hmem:mk[k2]∈mk:=List.getElem_mem _;generalize mk[k2]=x at *;(conv=>whnf);refine ob (by first|omega|(dsimp only;omega)) ?_;(conv=>whnf);refine atp ha1 ?_;(conv=>whnf);refine on (hcc 0 4 (by decide)) ?_;(conv=>whnf);refine brn (fun g8=>?_) (fun g8=>?_)
  ·refine zR ?_;exact bad hle7 (fun hF=>hF.2.2.1 x.mk' (List.mem_map.2 ⟨x,hmem,rfl⟩) (Zd0 g8))
  ·refine zR ?_;refine ob (zd (by first|omega|(dsimp only;omega))) ?_;(conv=>whnf)
   refine⟨k2+1,⟨by omega,fun m hm=>?_⟩,by omega,zS⟩;rw[htk] at hm;rcases List.mem_append.1 hm with hm|hm
   ·exact hall m hm
   ·simp only[List.mem_singleton] at hm;subst hm;exact Zd1 g8
 have hge7:mn≤k2:=by have:=Zd1 g7;omega
 rw[List.take_of_length_le (by simp;omega)] at hall;refine zR ?_;refine(zDj qg (h.seen.le hle7) h.few (by omega) hB.marks).mono ?_;have hgg:¬(qg<0∨256<qg):=by unfold zbr at hg;omega
 rintro v M8 ⟨f,hf,hout⟩
 have hP:f=2∧¬FormP (mk.map MkC.mk')∨FormP (mk.map MkC.mk')∧((f=6∧qg<zcE (mk.map MkC.mk'))∨(f=0∧(zcE (mk.map MkC.mk'):Int)≤qg)):=by
  rcases hf with ⟨h1,h2⟩|⟨h1,h2,h3⟩|⟨h1,h2,h3,h4⟩|⟨h1,h2,h3,h4⟩
  ·exact absurd h1 hgg
  ·exact .inl ⟨h3,h2⟩
  ·exact .inr ⟨h2,.inl ⟨h4,h3⟩⟩
  ·exact .inr ⟨h2,.inr ⟨h4,h3⟩⟩
 have full:∀ {M':Mem},M.le M'→FormP (mk.map MkC.mk')→zfa qh qb qg hs (mk.map MkC.mk')→zs0 qh qb qg self epoch ul hs (mk.map MkC.mk') M (.tuple #[.pointer none,.int .i64 6]) M':=fun hle h1 h2=>⟨6,.inr (.inr (.inl ⟨hg,⟨hN,hH,hall,h1⟩,h2,rfl⟩)),.inl ⟨by decide,rfl,hle⟩⟩
 rcases hout with ⟨hf0,rfl,hle8⟩|⟨hf0,p2,b2,es2,rfl,h8,hes⟩
 ·(conv=>whnf);refine brn (fun g8=>?_) (fun g8=>?_)
  ·have e8:f=2:=Zd0 g8;subst e8;refine zR ?_;refine bad (Mem.le_trans hle7 hle8) (fun hF=>?_);rcases hP with ⟨_,h2⟩|⟨_,⟨h3,_⟩|⟨h3,_⟩⟩
   ·exact h2 hF.2.2.2
   ·omega
   ·omega
  ·have e8:¬f=2:=Zd1 g8
   have h6:FormP (mk.map MkC.mk')∧qg<zcE (mk.map MkC.mk'):=by
    rcases hP with ⟨h1,_⟩|⟨h2,⟨_,h3⟩|⟨h3,_⟩⟩
    ·exact absurd h1 e8
    ·exact⟨h2,h3⟩
    ·exact absurd h3 hf0
   refine zR ?_;refine brn_t (by simp[hf0]) ?_;refine zR ?_;exact full (Mem.le_trans hle7 hle8) h6.1 (.inl h6.2)
 subst hf0
 have hFP:FormP (mk.map MkC.mk')∧(zcE (mk.map MkC.mk'):Int)≤qg:=by
  rcases hP with ⟨h1,_⟩|⟨h2,⟨h1,_⟩|⟨_,h3⟩⟩
  ·cases h1
  ·cases h1
  ·exact⟨h2,h3⟩
 have hle8:=Mem.le_trans hle7 h8.le;have hA8:=hA7.le h8.le
 have hxl:xs.length=hs.length:=by have:=congrArg List.length hA8.held;simpa using this
 refine zR ?_;refine on (hA8.self.c1 (ze8 (S:=mkS self qh qb qg epoch (zaL ul) hs) (zb8 ul) ..)) ?_;(conv=>whnf)
 refine hA8.map.len fun e9 c9 hsz=>?_
 (conv=>whnf);refine brn (fun g8=>?_) (fun g8=>?_)
 ·have e8:qh<hs.length:=by have:=Zd0 g8;dsimp only at this;rw[hsz] at this;omega
  refine zR ?_;exact full hle8 hFP.1 (.inr (.inl e8))
 have e8:¬qh<hs.length:=by have:=Zd1 g8;dsimp only at this;rw[hsz] at this;omega
 refine zR ?_;refine on (hA8.self.c1 (zhn (S:=mkS self qh qb qg epoch (zaL ul) hs) (zb8 ul) ..)) ?_;(conv=>whnf);refine brn (fun g9=>?_) (fun g9=>?_)
 ·refine zR ?_;exact full hle8 hFP.1 (.inr (.inr (Zd0 g9)))
 have e9':¬qb<zm hs:=Zd1 g9;refine zR ?_;refine on hA8.self.cells ?_;(conv=>whnf);refine ob (by dsimp only;rw[zcU (S:=mkS self qh qb qg epoch (zaL ul) hs) (zb8 ul)];omega) ?_;(conv=>whnf)
 have hpM:M p=none:=hy.fresh p (.inl rfl);have hbp:b≠p:=(hA8.map.nb hA8.self).symm
 have hk9:Mem.keep (fun y=>y=p) M8 (M8.setCells p T.zo (ze (zH (mkS self qh qb qg epoch (zaL ul) hs) b came (zm hs) sp) (0+0+72) [ptr p2])):=keepS rfl
 have hs9:(M8.setCells p T.zo (ze (zH (mkS self qh qb qg epoch (zaL ul) hs) b came (zm hs) sp) (0+0+72) [ptr p2])).has p T.zo (zH (mkS self qh qb qg epoch (zaL ul) hs) b came (zm hs) p2):=by
  rw[show 0+0+72=72 from rfl,zws (S:=mkS self qh qb qg epoch (zaL ul) hs) (zb8 ul)];exact Mem.has_setCells
 have hnp:∀ y,setB p2 b2 es2 y→y≠p:=fun y hy' e=>by
  have:=h8.fresh y hy';have h7:=hA7.self
  unfold Mem.has at h7;rw[e,h7] at this;cases this
 have hbad:(0≤self∧self≤63)∧(0≤qh∧qh≤256)∧(0≤qb∧qb≤1048576):=by unfold zbr at hg;omega
 refine⟨0,.inr (.inr (.inr ⟨hg,⟨hN,hH,hall,hFP.1⟩,fun hh=>?_,rfl⟩)),.inr ⟨rfl,p,b,p2,b2,came,xs,es2,rfl,⟨?_,?_,?_,h8.inv,h8.room,fun y hy'=>?_⟩,by omega,hes⟩⟩
 ·rcases hh with hh|hh|hh
  ·have:=hFP.2;omega
  ·exact e8 hh
  ·exact e9' hh
 ·exact hk9.le hle8 fun y e=>e▸hpM
 ·refine⟨hs9,hA8.map.mono fun o ho=>hk9 b o hbp ho,fun q hq=>(hA8.data q hq).mono fun a o ha ho=>hk9 _ o (hA8.dset hq ⟨a,ha,rfl⟩).2.1 ho,h8.at'.mono fun y o hy' ho=>hk9 y o (hnp y hy') ho,hA8.held,hA8.keys,hA8.ord,hA8.came,fun e=>?_⟩;have:=h8.fresh b2 (.inr (.inl rfl))
  obtain⟨l',c',hh,_⟩:=hA7.map;rw[←e,hh] at this;cases this
 ·exact⟨hbad.1,hep,zb8 _,fun n hn=>zqw hN.1 n hn,by dsimp only;omega,by dsimp only;omega,hy.inv.msgs,hy.inv.nodup⟩
 ·rcases hy' with hy'|hy'|hy'|hy'
  ·exact hy.fresh y (.inl hy')
  ·exact hy.fresh y (.inr (.inl hy'))
  ·exact hy.fresh y (.inr (.inr (.inl hy')))
  ·have:=h8.fresh y hy';cases e:M y with
   | none=>rfl
   | some o=>rw[hle7 y o e] at this;cases this
end Go.Proofs.YtpdkkbpkplhdpaaGreat
namespace Go.Proofs.YtpdkkbpkplhdpaaGreat
open Go Go.Vm
structure GoS (S:StR) (es:EsT):Prop where
 none:S.epoch=0→∀ n∈S.used,n=0
 own:S.used.getD S.self.toNat 0=0
 held:∀ m∈S.l,m.id.o=S.self→m.id.e=S.epoch→m.id.c≤S.used.getD m.id.d.toNat 0
 seen:∀ q∈es,q.1.1≠S.self
theorem GoS.new (self qh qb qg:Int):GoS (zfp self qh qb qg) []:=by
 refine⟨fun _ n hn=>List.eq_of_mem_replicate hn,?_,fun m hm=>(by cases hm),fun q hq=>(by cases hq)⟩;unfold zfp;dsimp only;rw[List.getD_eq_getElem?_getD,List.getElem?_replicate];split<;>rfl
theorem zB1 {es:EsT} {k:Int×Int} {x:Ent} {q:(Int×Int)×Ent} (h:q∈zQ es k x):q.1=k∨∃ r∈es,r.1=q.1:=by
 have h1:q.1∈(zQ es k x).map (·.1):=List.mem_map.2 ⟨q,h,rfl⟩;rw[ztg] at h1;split at h1
 ·exact .inr (List.mem_map.1 h1)
 ·rcases List.mem_append.1 h1 with h1|h1
  ·exact .inr (List.mem_map.1 h1)
  ·exact .inl (by simpa using h1)
theorem zmx {S:StR} {set:IdT→Int} {i:IdT} {n:Nat} (h:zag S set 4 i n=0):i.d=S.self∧set i=0:=by
 unfold zag at h;split at h
 ·rename_i g;exact absurd h g
 rw[if_neg (by decide),if_neg (by decide),if_neg (by decide)] at h;split at h
 ·cases h
 ·rename_i g;exact⟨by omega,h⟩
theorem GoS.step:zEK GoS:=by
 intro S es es' k i p hI hE h hst;by_cases hm:zag S (zcV S es) k i p.length=0
 rotate_left
 ·rw[if_neg hm];rw[if_neg (fun h=>hm h.1)] at hst;rw[hst];exact h
 rw[if_pos hm];by_cases h1:k=1
 ·subst h1;rw[if_neg (fun h=>by omega)] at hst;subst hst;have e:zJ S 1 i p={ S with epoch:=S.epoch+1,used:=List.replicate 64 0 }:=by unfold zJ;rw[if_pos rfl]
  rw[e];have he:=hI.epoch
  refine⟨fun _ n hn=>List.eq_of_mem_replicate hn,?_,fun m hm ho he'=>?_,h.seen⟩
  ·dsimp only;rw[List.getD_eq_getElem?_getD,List.getElem?_replicate];split<;>rfl
  ·have:=(hI.msgs m hm).2.2 ho;dsimp only at he';omega
 by_cases h2:k=2
 ·subst h2;rw[if_neg (fun h=>by omega)] at hst;subst hst;obtain⟨g1,g2,g3,g4,g5,g6⟩:=zoi hm;obtain⟨r1,r2,r3,r4,r5⟩:=zfH (za8 g1).1;have e:zJ S 2 i p={ S with l:=S.l++[⟨i,p⟩],used:=if i.o=S.self∧i.e=S.epoch then S.used.set i.d.toNat (max (zcL S i.d) i.c) else S.used }:=by unfold zJ;rw[if_neg (by decide),if_pos rfl]
  rw[e];have hs:=hI.self
  have hu:=hI.ulen;refine⟨fun h0 n hn=>?_,?_,fun m hm ho he'=>?_,h.seen⟩
  ·dsimp only at h0 hn;rw[if_neg (fun hh=>by omega)] at hn;exact h.none h0 n hn
  ·dsimp only;split
   ·rw[zj1 (by omega),if_neg (by omega)];exact h.own
   ·exact h.own
  ·dsimp only at hm ho he' ⊢;rcases List.mem_append.1 hm with hm|hm
   ·have hc:=h.held m hm ho he';split
    ·rw[zj1 (by omega)];split
     ·rename_i hd;unfold zcL;rw[hd] at hc;omega
     ·exact hc
    ·exact hc
   ·simp only[List.mem_singleton] at hm;subst hm;dsimp only at ho he' ⊢;rw[if_pos ⟨ho,he'⟩,zj1 (by omega),if_pos rfl];omega
 by_cases h3:k=3
 ·subst h3;rw[if_neg (fun h=>by omega)] at hst;subst hst;have e:zJ S 3 i p={ S with l:=S.l.filter fun m=>decide (m.id≠i) }:=by unfold zJ;rw[if_neg (by decide),if_neg (by decide),if_pos rfl]
  rw[e];exact⟨h.none,h.own,fun m hm=>h.held m (List.mem_filter.1 hm).1,h.seen⟩
 ·have e:zJ S k i p=S:=by unfold zJ;rw[if_neg h1,if_neg h2,if_neg h3]
  rw[e];refine⟨h.none,h.own,h.held,fun q hq=>?_⟩;split at hst
  ·rename_i h4;obtain⟨-, rfl⟩:=h4;obtain⟨hd,hz⟩:=zmx hm;rcases hst with ⟨hne,rfl⟩|⟨_,x,rfl,_⟩
   ·exact h.seen q hq
   ·have:=(zfH (znY hz).1).2.2.2.2;rcases zB1 hq with hk|⟨r,hr,hk⟩
    ·rw[hk];dsimp only;omega
    ·rw[←hk];exact h.seen r hr
  ·rw[hst] at hq;exact h.seen q hq
theorem Chain.of:∀ {l:List Int} {last:Int},l.Pairwise (· < ·)→(∀ c∈l,last<c∧c≤65535)→Chain last l
 | [],_,_,_=>trivial
 | x::r,last,h1,h2=>by
  obtain⟨h3,h4⟩:=List.pairwise_cons.1 h1;exact⟨(h2 x (by simp)).1,(h2 x (by simp)).2,Chain.of h4 fun c hc=>⟨h3 c hc,(h2 c (by simp[hc])).2⟩⟩
theorem zzw {es:EsT} (hE:InvE es) {l:List Mk} (hs:l.Pairwise zbJ) (hp:l.Perm (es.map zbe)):FormP l:=by
 refine⟨fun m hm=>?_,hs⟩;obtain⟨q,hq,rfl⟩:=List.mem_map.1 (hp.mem_iff.1 hm);obtain⟨⟨c1,c2,c3⟩,c4⟩:=hE.can q hq;obtain⟨⟨k1,k2,k3,k4⟩,k5⟩:=hE.range q hq;dsimp only [zbe];refine⟨⟨k1,(show q.1.1<64 by omega),k3,k4,c1,?_⟩,c4.imp id fun h=>List.length_pos_iff.2 h,Chain.of c2 fun c hc=>⟨c3 c hc,k5 c (.inr hc)⟩⟩;dsimp only;by_cases h0:0<q.2.up
 ·exact k5 q.2.up (.inl ⟨by omega,Int.le_refl _⟩)
 ·omega
theorem zmy:∀ (u:List Int) (k:Nat),(zaB k u).Pairwise fun x y=>x.1<y.1
 | [],_ => .nil
 | n::r,k=>by
  unfold zaB;split
  ·refine List.pairwise_cons.2 ⟨fun y hy=>?_,zmy r (k+1)⟩;have:=zez r (k+1) y hy
   dsimp only;omega
  ·exact zmy r (k+1)
theorem zn2:∀ (u:List Int) (k:Nat) (x:Int×Int),x∈zaB k u→x.2∈u∧x.2=u.getD (x.1.toNat - k) 0
 | [],_,x,h=>by cases h
 | n::r,k,x,h=>by
  have more:x∈zaB (k+1) r→x.2∈n::r∧x.2=(n::r).getD (x.1.toNat - k) 0:=fun h=>by
   obtain⟨h1,h2⟩:=zn2 r (k+1) x h;have h3:=zez r (k+1) x h
   refine⟨by simp[h1],?_⟩;rw[show x.1.toNat - k=(x.1.toNat - (k+1))+1 by omega];rw[List.getD_cons_succ];exact h2
  unfold zaB at h;split at h
  ·rcases List.mem_cons.1 h with rfl|h
   ·simp
   ·exact more h
  ·exact more h
theorem GoS.nexts {S:StR} {es:EsT} (hI:zeh S) (h:GoS S es):zrJ S.self S.epoch (zG S.used):=by
 refine⟨⟨fun n hn=>?_,zmy _ _,fun hne he=>?_⟩,hI.epoch⟩
 ·have h1:=zez _ _ n hn;obtain⟨h2,h3⟩:=zn2 _ _ n hn;have h4:=hI.used _ h2
  have hu:=hI.ulen;refine⟨by omega,fun e=>?_,by omega,by omega⟩;rw[Nat.sub_zero,e,h.own] at h3;omega
 ·obtain⟨x,r,e⟩:=List.exists_cons_of_ne_nil hne;have hx:x∈zG S.used:=by rw[e];simp
  have h1:=zez _ _ x hx;have h2:=h.none he _ (zn2 _ _ x hx).1
  omega
theorem GoS.form {S:StR} {es:EsT} (hI:zeh S) (hE:InvE es) (h:GoS S es) {l:List Mk} (hs:l.Pairwise zbJ) (hp:l.Perm (es.map zbe)):zky S.self S.epoch (zG S.used) S.l l:=by
 refine⟨h.nexts hI,⟨fun m hm=>?_,hI.nodup⟩,fun m hm=>?_,zzw hE hs hp⟩
 ·obtain⟨h1,h2,h3⟩:=hI.msgs m hm;refine⟨h1,h2,fun ho=>?_⟩;have h4:=h3 ho
  by_cases he:m.id.e=S.epoch
  ·refine .inr ⟨he,?_⟩;have:=h.held m hm ho he
   have hr:=zfH (za8 h1).1;rw[zhU hI (by omega)];exact this
  ·exact .inl (by omega)
 ·obtain⟨q,hq,rfl⟩:=List.mem_map.1 (hp.mem_iff.1 hm);exact h.seen q hq
theorem GoS.check {S:StR} {es:EsT} (hI:zeh S) (hE:InvE es) (hr:(zaI es:Int)≤S.qg) (hg:¬zbr S.self S.qh S.qb S.qg) (h:GoS S es) {l:List Mk} (hs:l.Pairwise zbJ) (hp:l.Perm (es.map zbe)):CheckS S.qh S.qb S.qg S.self S.epoch (zG S.used) S.l l 0:=by
 refine .inr (.inr (.inr ⟨hg,h.form hI hE hs hp,fun hf=>?_,rfl⟩));have hq:=hI.qh
 have hb:=hI.qb
 have hsum:zcE l=zaI es:=by
  have:=(hp.map fun m=>m.more.length).sum_nat;rw[List.map_map] at this;exact this
 unfold zfa at hf;rw[hsum] at hf;omega
theorem zzx {S:StR} {es:EsT} (hI:zeh S) (h:GoS S es):zaL (zG S.used)=S.used:=by
 have hu:=hI.ulen;apply List.ext_getElem?;intro i;by_cases hi:i<64
 ·have h1:=zmw (h.nexts hI).1 (d:=i) (by omega);have h2:=zhU hI (d:=i) (by omega)
  rw[h1] at h2;unfold zcL at h2;simp only[Int.toNat_natCast] at h2;have l1:i<(zaL (zG S.used)).length:=by rw[zb8];exact hi
  have l2:i<S.used.length:=by omega
  rw[List.getD_eq_getElem?_getD,List.getD_eq_getElem?_getD,List.getElem?_eq_getElem l1,List.getElem?_eq_getElem l2] at h2;rw[List.getElem?_eq_getElem l1,List.getElem?_eq_getElem l2];exact congrArg some h2
 ·rw[List.getElem?_eq_none (by rw[zb8];omega),List.getElem?_eq_none (by omega)]
end Go.Proofs.YtpdkkbpkplhdpaaGreat
namespace Go.Proofs.YtpdkkbpkplhdpaaGreat
open Go Go.Vm
attribute [local irreducible] Brn Ob Grow CallsM inR zax zav Mem.row Mem.cells Mem.setCells Mem.upd Go.Vm.Own zaD za5 zbc zaJ New SrcOk subA NewSl Mem.textAt Mem.mapAt Mem.iterAt zau zaj Wr NewEls Elems
set_option maxRecDepth 10000
section
structure Hd where
 p:Nat
 b:Nat
 sp:Nat
 sb:Nat
 came:Int
 xs:HsT
 es:EsT
@[reducible] def zwt (B M:Mem) (S:StR) (x:Hd):Prop:=FreshSt B M x.p x.b x.sp x.sb S x.came x.xs x.es
@[reducible] def hB (x:Hd):Nat→Prop:=stB x.p x.b x.sp x.sb x.xs x.es
structure Two (B M:Mem) (S U:StR) (x y:Hd):Prop where
 one:zwt B M S x
 two:zwt B M U y
 apart:∀ z,hB x z→¬hB y z
variable {B M:Mem} {S U:StR} {x y:Hd}
end
section
def toE (m:Mk):(Int×Int)×Ent:=((m.o,m.e),⟨0,none,0,m.up,m.more⟩)
def zdn (mk:List Mk):EsT:=mk.map toE
theorem zok (mk:List Mk):(zdn mk).map zbe=mk:=by
 unfold zdn;rw[List.map_map];exact List.map_id _
structure SeenAs (es:EsT) (mk:List Mk):Prop where
 perm:(es.map zbe).Perm mk
 sort:mk.Pairwise zbJ
theorem zCw {es:EsT} {k:Int×Int}:(zD es k).map (fun x=>(x.up,x.more))=((es.map zbe).find? fun m=>decide (m.o=k.1∧m.e=k.2)).map fun m=>(m.up,m.more):=by
 induction es with
 | nil=>rfl
 | cons q r ih=>
  obtain⟨⟨a,b⟩,x⟩:=q;obtain⟨k1,k2⟩:=k;rw[List.map_cons,List.find?_cons];by_cases e:a=k1∧b=k2
  ·obtain⟨rfl,rfl⟩:=e;simp[zD,zbe]
  ·have h1:¬(a,b)=(k1,k2):=fun h=>e (by simpa using h)
   have h2:decide ((zbe ((a,b),x)).o=(k1,k2).1∧(zbe ((a,b),x)).e=(k1,k2).2)=false:=decide_eq_false e;rw[h2];simp only[zD,if_neg h1];exact ih
theorem zAQ {l r:List Mk} (h:l.Perm r) (hs:r.Pairwise zbJ) (k:Int×Int):l.find? (fun m=>decide (m.o=k.1∧m.e=k.2))=r.find? fun m=>decide (m.o=k.1∧m.e=k.2):=by
 cases h1:l.find? fun m=>decide (m.o=k.1∧m.e=k.2) with
 | none=>
  symm;rw[List.find?_eq_none] at h1 ⊢;exact fun x hx=>h1 x (h.mem_iff.2 hx)
 | some x=>
  have hx:=h.mem_iff.1 (List.mem_of_find?_eq_some h1);have ex:=List.find?_some h1
  cases h2:r.find? fun m=>decide (m.o=k.1∧m.e=k.2) with
  | none=>
   rw[List.find?_eq_none] at h2;exact absurd ex (h2 x hx)
  | some y=>
   have ey:=List.find?_some h2;simp only[decide_eq_true_eq] at ex ey;rw[zjY hs hx (List.mem_of_find?_eq_some h2) (by omega) (by omega)]
theorem SeenAs.get {es:EsT} {mk:List Mk} (h:SeenAs es mk) (k:Int×Int):(zD es k).map (fun x=>(x.up,x.more))=(zD (zdn mk) k).map fun x=>(x.up,x.more):=by
 rw[zCw,zCw,zok,zAQ h.perm h.sort]
theorem SeenAs.up {es:EsT} {mk:List Mk} (h:SeenAs es mk) (k:Int×Int):zck es k=zck (zdn mk) k∧zbZ es k=zbZ (zdn mk) k:=by
 have:=h.get k;unfold zck zbZ;cases h1:zD es k<;>cases h2:zD (zdn mk) k<;>rw[h1,h2] at this<;>simp_all
theorem SeenAs.gaps {es:EsT} {mk:List Mk} (h:SeenAs es mk):zaI es=zaI (zdn mk):=by
 have e:∀ x:EsT,zaI x=((x.map zbe).map fun m=>m.more.length).sum:=fun x=>by
  unfold zaI;rw[List.map_map];rfl
 rw[e,e,zok];exact(h.perm.map _).sum_nat
theorem SeenAs.has {es:EsT} {mk:List Mk} (h:SeenAs es mk) (o d e c:Int):zgh es o d e c=zgh (zdn mk) o d e c:=by
 unfold zgh;rw[(h.up _).1,(h.up _).2]
theorem SeenAs.may {es:EsT} {mk:List Mk} (h:SeenAs es mk) (g o d e c:Int):zc9 g es o d e c=zc9 g (zdn mk) o d e c:=by
 unfold zc9;rw[h.has,(h.up _).1,h.gaps]
theorem SeenAs.add {es:EsT} {mk:List Mk} (h:SeenAs es mk) (o e c:Int):ze7 es o e c=ze7 (zdn mk) o e c:=by
 unfold ze7;rw[(h.up _).1,(h.up _).2]
theorem SeenAs.nil:SeenAs [] []:=⟨.nil,.nil⟩
theorem SeenAs.canon {es:EsT} {mk:List Mk} (h:SeenAs es mk) (hE:InvE es):Canon (inE es) mk:=by
 refine⟨h.sort,fun m hm=>?_,fun o e c=>?_⟩
 ·obtain⟨q,hq,rfl⟩:=List.mem_map.1 (h.perm.mem_iff.2 hm);exact hE.can q hq
 ·rw[zsV hE];constructor
  ·rintro ⟨q,hq,e1,e2,hc⟩;exact⟨zbe q,h.perm.mem_iff.1 (List.mem_map.2 ⟨q,hq,rfl⟩),e1,e2,hc⟩
  ·rintro ⟨m,hm,e1,e2,hc⟩;obtain⟨q,hq,rfl⟩:=List.mem_map.1 (h.perm.mem_iff.2 hm);exact⟨q,hq,e1,e2,hc⟩
def zho (m:Mk):List Mk→List Mk
 | []=>[m]
 | y::r=>if m.o<y.o∨(m.o=y.o∧m.e<y.e) then m::y::r else if m.o=y.o∧m.e=y.e then m::r else y::zho m r
theorem zn4 {m x:Mk}:∀ {l:List Mk},l.Pairwise zbJ→(x∈zho m l↔x=m∨(x∈l∧¬(x.o=m.o∧x.e=m.e)))
 | [],_=>by simp[zho]
 | y::r,h=>by
  obtain⟨h1,h2⟩:=List.pairwise_cons.1 h;unfold zho;split
  ·rename_i hl
   have hne:∀ z∈y::r,¬(z.o=m.o∧z.e=m.e):=fun z hz=>by
    rcases List.mem_cons.1 hz with rfl|hz
    ·omega
    ·have:=h1 z hz;unfold zbJ at this;omega
   constructor
   ·intro hx;rcases List.mem_cons.1 hx with rfl|hx
    ·exact .inl rfl
    ·exact .inr ⟨hx,hne x hx⟩
   ·rintro (rfl|⟨hx,_⟩)
    ·simp
    ·exact List.mem_cons_of_mem _ hx
  ·rename_i hl;split
   ·rename_i he
    have hne:∀ z∈r,¬(z.o=m.o∧z.e=m.e):=fun z hz=>by
     have:=h1 z hz;unfold zbJ at this;omega
    constructor
    ·intro hx;rcases List.mem_cons.1 hx with rfl|hx
     ·exact .inl rfl
     ·exact .inr ⟨List.mem_cons_of_mem _ hx,hne x hx⟩
    ·rintro (rfl|⟨hx,hn⟩)
     ·simp
     ·rcases List.mem_cons.1 hx with rfl|hx
      ·exact absurd ⟨he.1.symm,he.2.symm⟩ hn
      ·exact List.mem_cons_of_mem _ hx
   ·rename_i he;rw[List.mem_cons,zn4 h2,List.mem_cons];constructor
    ·rintro (rfl|rfl|⟨hx,hn⟩)
     ·exact .inr ⟨.inl rfl,fun h=>he ⟨h.1.symm,h.2.symm⟩⟩
     ·exact .inl rfl
     ·exact .inr ⟨.inr hx,hn⟩
    ·rintro (rfl|⟨rfl|hx,hn⟩)
     ·exact .inr (.inl rfl)
     ·exact .inl rfl
     ·exact .inr (.inr ⟨hx,hn⟩)
theorem zmz {m:Mk}:∀ {l:List Mk},l.Pairwise zbJ→(zho m l).Pairwise zbJ
 | [],_=>by simp[zho]
 | y::r,h=>by
  obtain⟨h1,h2⟩:=List.pairwise_cons.1 h;unfold zho;split
  ·rename_i hl;refine List.pairwise_cons.2 ⟨fun z hz=>?_,h⟩;rcases List.mem_cons.1 hz with rfl|hz
   ·exact hl
   ·have:=h1 z hz;unfold zbJ at this ⊢; omega
  ·rename_i hl;split
   ·rename_i he;refine List.pairwise_cons.2 ⟨fun z hz=>?_,h2⟩;have:=h1 z hz;unfold zbJ at this ⊢; omega
   ·rename_i he;refine List.pairwise_cons.2 ⟨fun z hz=>?_,zmz h2⟩;rcases(zn4 h2).1 hz with rfl|⟨hz,_⟩
    ·unfold zbJ;omega
    ·exact h1 z hz
def zrP (mk:List Mk) (o e c:Int):List Mk:=zho ⟨o,e,(ze7 (zdn mk) o e c).1,(ze7 (zdn mk) o e c).2⟩ mk
theorem zmP {α:Type}:∀ {l r:List α},l.Nodup→r.Nodup→(∀ x,x∈l↔x∈r)→l.Perm r
 | [],r,_,_,h=>by
  have:r=[]:=List.eq_nil_iff_forall_not_mem.2 fun x hx=>by have:=(h x).2 hx;cases this
  rw[this]
 | a::l,r,h1,h2,h=>by
  have ha:a∈r:=(h a).1 (by simp);obtain⟨u,v,rfl⟩:=List.append_of_mem ha;obtain⟨h3,h4⟩:=List.nodup_cons.1 h1;have hp:(u++a::v).Perm (a::(u++v)):=List.perm_middle
  have h5:=List.nodup_cons.1 (hp.nodup_iff.1 h2);refine(List.Perm.cons a (zmP h4 h5.2 fun x=>?_)).trans hp.symm;have hx:=h x
  rw[hp.mem_iff,List.mem_cons,List.mem_cons] at hx;constructor
  ·intro hl;rcases hx.1 (.inr hl) with rfl|h6
   ·exact absurd hl h3
   ·exact h6
  ·intro hr;rcases hx.2 (.inr hr) with rfl|h6
   ·exact absurd hr h5.1
   ·exact h6
theorem zzy {es:EsT} (h:(es.map (·.1)).Nodup):(es.map zbe).Nodup:=by
 rw[List.Nodup,List.pairwise_map] at h ⊢
 exact h.imp fun {a b} hne e=>hne (by
  have h1:=congrArg Mk.o e;have h2:=congrArg Mk.e e
  exact Prod.ext h1 h2)
theorem zzz {mk:List Mk} (h:mk.Pairwise zbJ):mk.Nodup:=h.imp fun {a b} h e=>by subst e;unfold zbJ at h;omega
theorem SeenAs.put {es:EsT} {mk:List Mk} (h:SeenAs es mk) (hn:(es.map (·.1)).Nodup) {o e c:Int} {x:Ent} (hx:(x.up,x.more)=ze7 es o e c):SeenAs (zQ es (o,e) x) (zrP mk o e c):=by
 have hm:zbe ((o,e),x)=⟨o,e,(ze7 (zdn mk) o e c).1,(ze7 (zdn mk) o e c).2⟩:=by rw[←h.add,←hx];rfl
 refine⟨zmP (zzy (zew hn _ _)) (zzz (zmz h.sort)) fun m=>?_,zmz h.sort⟩;unfold zrP;rw[zn4 h.sort,←hm,List.mem_map];constructor
 ·rintro ⟨q,hq,rfl⟩;rcases zmm hn hq with rfl|⟨h1,h2⟩
  ·exact .inl rfl
  ·exact .inr ⟨h.perm.mem_iff.1 (List.mem_map.2 ⟨q,h1,rfl⟩),fun ⟨e1,e2⟩=>h2 (Prod.ext e1 e2)⟩
 ·rintro (rfl|⟨h1,h2⟩)
  ·exact⟨((o,e),x),zN (by rw[zdX,if_pos rfl]),rfl⟩
  ·obtain⟨q,hq,rfl⟩:=List.mem_map.1 (h.perm.mem_iff.2 h1);refine⟨q,?_,rfl⟩
   have:zD (zQ es (o,e) x) q.1=some q.2:=by
    rw[zdX,if_neg fun e1=>h2 ⟨congrArg Prod.fst e1,congrArg Prod.snd e1⟩];exact zdt hn hq
   exact zN this
end
section
variable {M A:Mem} {h:Hd}
structure StW where
 S:StR
 sn:List Mk
def zcF (X:StW) (k:Int) (i:IdT) (n:Nat):Int:=zag X.S (zcV X.S (zdn X.sn)) k i n
def zcX (X:StW) (k:Int) (i:IdT) (p:List UInt8):StW×Int:=
 if zcF X k i p.length=0 then (⟨zJ X.S k i p,if k=4 then zrP X.sn i.o i.e i.c else X.sn⟩,0) else (X,zcF X k i p.length)
theorem zwu (S:StR) (k:Int) (i:IdT) (p:List UInt8):(zJ S k i p).self=S.self∧(zJ S k i p).qh=S.qh∧(zJ S k i p).qb=S.qb∧(zJ S k i p).qg=S.qg:=by
 unfold zJ;repeat' split
 all_goals exact⟨rfl,rfl,rfl,rfl⟩
structure FreshW (A M:Mem) (h:Hd) (X:StW):Prop where
 st:zwt A M X.S h
 seen:SeenAs h.es X.sn
 go:GoS X.S h.es
 bd:¬zbr X.S.self X.S.qh X.S.qb X.S.qg
theorem FreshW.to {X:StW} (h1:FreshW A M h X) {M':Mem} (hle:M.le M'):FreshW A M' h X:=⟨h1.st.to hle,h1.seen,h1.go,h1.bd⟩
theorem FreshW.may {X:StW} (h1:FreshW A M h X) (k:Int) (i:IdT) (n:Nat):zag X.S (zcV X.S h.es) k i n=zcF X k i n:=by
 have:zcV X.S h.es=zcV X.S (zdn X.sn):=funext fun i=>h1.seen.may ..
 unfold zcF;rw[this]
theorem FreshW.es_len {X:StW} (h1:FreshW A M h X):h.es.length=X.sn.length:=by have:=h1.seen.perm.length_eq;simpa using this
theorem FreshW.base {X:StW} (h1:FreshW A M h X):FreshW (M.minus (hB h)) M h X∧A.le (M.minus (hB h)):=⟨⟨h1.st.base.1,h1.seen,h1.go,h1.bd⟩,h1.st.base.2⟩
theorem FreshW.mono {X:StW} {A':Mem} (h1:FreshW A' M h X) (hle:A.le A'):FreshW A M h X:=
 ⟨⟨Mem.le_trans hle h1.st.le,h1.st.at',h1.st.inv,h1.st.invE,h1.st.room,fun y hy=>by
  cases e:A y with
  | none=>rfl
  | some o=>have:=hle y o e;rw[h1.st.fresh y hy] at this;cases this⟩,h1.seen,h1.go,h1.bd⟩
theorem zEL (self qh qb qg:Int):CallsM Tryz.prog F.zgm [.int .i64 self,.agg #[.int .i64 qh,.int .i64 qb,.int .i64 qg]] M fun v M'=>
  (zbr self qh qb qg∧v = .tuple #[.pointer none,.int .i64 1]∧M=M') ∨
  (¬zbr self qh qb qg∧∃ h,v = .tuple #[ptr h.p,.int .i64 0]∧FreshW M M' h ⟨zfp self qh qb qg,[]⟩∧h.came=0):=
 (zwj self qh qb qg).mono fun v M' hv=>by
  rcases hv with h1|⟨h1,p,b,sp,sb,rfl,h2⟩
  ·exact .inl h1
  ·exact .inr ⟨h1,⟨p,b,sp,sb,0,[],[]⟩,rfl,⟨h2,SeenAs.nil,GoS.new .., h1⟩,rfl⟩
theorem zEM {X:StW} (h1:FreshW A M h X) (k:Int) (i:IdT) (a:Option Addr) (n c:Nat) (hn:n≤1048576):CallsM Tryz.prog F.zc3 [ptr h.p,evV k i a n c] M fun v M'=>v = .int .i64 (zcF X k i n)∧M.le M':=
 (zwk h1.st k i a n c hn).mono fun v M' ⟨hv,hle⟩=>⟨by rw[hv,h1.may],hle⟩
theorem zDk {X:StW} (h1:FreshW A M h X) (k:Int) (i:IdT) {a:Option Addr} {c:Nat} {l:List UInt8} (hl:SrcOk M 1 a l.length (l.map zl)) (hn:l.length≤1048576) (hcm:h.came≤4611686018427387904) :
  CallsM Tryz.prog F.zbV [ptr h.p,evV k i a l.length c] M fun v M'=>∃ h',v = .int .i64 (zcX X k i l).2∧FreshW A M' h' (zcX X k i l).1∧h'.p=h.p∧h'.came≤h.came+1:=
 (zrG h1.st k i hl hn hcm).mono fun v M' ⟨cm,xs,es,hv,hc,h2,hst⟩=>by
  have hq:=GoS.step X.S h.es es k i l h1.st.inv h1.st.invE h1.go hst;rw[h1.may] at hv h2 hst hq;unfold zcX;by_cases hm:zcF X k i l.length=0
  ·rw[if_pos hm] at h2 hq ⊢;refine⟨⟨h.p,h.b,h.sp,h.sb,cm,xs,es⟩,by rw[hv,hm],⟨h2,?_,hq,by obtain⟨q1,q2,q3,q4⟩:=zwu X.S k i l;dsimp only;rw[q1,q2,q3,q4];exact h1.bd⟩,rfl,hc⟩;by_cases hk:k=4
   ·rw[if_pos ⟨hm,hk⟩] at hst;rw[if_pos hk]
    have h4:zc9 X.S.qg h.es i.o i.d i.e i.c=0:=by
     have h5:=h1.may k i l.length;rw[hm,hk] at h5;exact(zmx h5).2
    rcases hst with ⟨hne,_⟩|⟨_,x,rfl,hx⟩
    ·exact absurd h4 hne
    ·exact h1.seen.put h1.st.invE.nodup hx
   ·rw[if_neg fun h=>hk h.2] at hst;rw[if_neg hk];dsimp only;rw[hst];exact h1.seen
  ·rw[if_neg hm] at h2 hq ⊢;rw[if_neg fun h=>hm h.1] at hst;exact⟨⟨h.p,h.b,h.sp,h.sb,cm,xs,es⟩,hv,⟨h2,by dsimp only;rw[hst];exact h1.seen,hq,h1.bd⟩,rfl,hc⟩
theorem zDl {X:StW} (h1:FreshW A M h X) (d:Int):CallsM Tryz.prog F.zee [ptr h.p,.int .i64 d] M fun v M'=>v = .tuple #[idA (za7 X.S d).1,.int .i64 (za7 X.S d).2]∧M=M':=zBO h1.st.at' h1.st.inv d
theorem zEj {X:StW} (h1:FreshW A M h X) (i:IdT):CallsM Tryz.prog F.zeq [ptr h.p,idA i] M fun v M'=>
  (v = .tuple #[.agg #[.int .i64 0,.int .i64 0,.int .i64 0,.int .i64 0,.slice none 0 0],.bool false]∧zda X.S.l i=false∧M=M') ∨
  (∃ a n c l,v = .tuple #[.agg #[.int .i64 i.o,.int .i64 i.d,.int .i64 i.e,.int .i64 i.c,.slice a n c],.bool true]∧zda X.S.l i=true∧⟨i,l⟩∈X.S.l∧NewSl M T.zn 1 a n c (l.map zl) M'):=zDe h1.st.at' h1.st.inv i
theorem FreshW.few {X:StW} (h1:FreshW A M h X):∀ m∈X.sn,m.more.length≤256:=fun m hm=>by
 obtain⟨q,hq,e⟩:=List.mem_map.1 (h1.seen.perm.mem_iff.2 hm);have h2:m.more=q.2.more:=(congrArg Mk.more e).symm
 have h3:=zjV hq;have h4:=h1.st.room
 rw[h2];omega
structure zCx (M0 M:Mem) (X:StW) (v:Value):Prop where
 ex:∃ ua uc ha hc ms ma mc mk,v=zAL X.S ua uc ha ms hc ma mk mc∧StatR M ua (zG X.S.used).length ha ms.length ma mk.length (zG X.S.used) ms mk ∧
  zB0 ms mk (zG X.S.used).length ms.length hc mk.length∧ms.map MX.msg=X.S.l∧mk.map MkC.mk'=X.sn∧NewSl M0 T.zbM 2 ua (zG X.S.used).length uc ((zG X.S.used).flatMap zeJ) M∧HeldAt M0 ha ms.length hc ms M∧MarksAt M0 ma mk.length mc mk M
theorem zya {X:StW} (h1:FreshW A M h X) (hcm:h.came≤4611686018427387904) (hmk:X.sn.length≤1048576):CallsM Tryz.prog F.zde [ptr h.p] M fun v M'=>M.le M'∧zCx M M' X v:=
 (zBW h1.st hcm (by rw[h1.es_len];omega)).mono fun v M' ⟨ua,uc,ha,hc,ms,ma,mc,mk,hv,hle,hN,hH,hmsg,hMk,hperm,hcan⟩=>by
  have hI:=h1.st.inv;have hqh:=hI.qh
  have hqm:X.S.qh≤256:=by have:=h1.bd;unfold zbr at this;omega
  have hml:ms.length=X.S.l.length:=by rw[←hmsg,List.length_map]
  have hmk2:mk.map MkC.mk'=X.sn:=hcan.uniq (h1.seen.canon h1.st.invE);have hmkl:mk.length=X.sn.length:=by rw[←hmk2,List.length_map]
  have hus:(zG X.S.used).length≤64:=by have h9:(zG X.S.used).length≤X.S.used.length:=zc5 _ 0;have:=hI.ulen;omega
  have hfew:∀ m∈mk,m.more.length≤256:=fun m hm=>h1.few m.mk' (hmk2▸List.mem_map.2 ⟨m,hm,rfl⟩)
  have hcl:ms.length≤hc:=(newSl_iff.1 hH.row).2.2.1;refine⟨hle,⟨ua,uc,ha,hc,ms,ma,mc,mk,hv,⟨hN.src,hH.msgs,hMk.r,fun m hm=>by have:=hfew m hm;omega,by omega⟩,⟨by omega,by omega,by omega,by omega,fun m hm=>?_,fun m hm=>by have:=hfew m hm;omega⟩,hmsg,hmk2,hN,hH,hMk⟩⟩;have h2:m.msg∈X.S.l:=hmsg▸List.mem_map.2 ⟨m,hm,rfl⟩
  have:=(za8 (hI.msgs _ h2).1).2.2;dsimp only [MX.msg] at this;omega
end
section
variable {M M0:Mem}
def zV (xs:List Int):List UInt8:=xs.flatMap (be 2)
theorem za0 (xs:List Int):(zV xs).length=2*xs.length:=by
 unfold zV
 induction xs with
 | nil=>rfl
 | cons x r ih=>rw[List.flatMap_cons,List.length_append,ih,zcp,List.length_cons];omega
theorem zDm {x:Int} (h:0≤x∧x≤65535):zcO x 2=0:=by
 unfold zcO;rw[if_neg (by omega),if_neg];rintro ⟨-, h2⟩;apply h2;have e:(2:Int) ^ (8*(2:Int)).toNat=65536:=by decide
 rw[e,Int.fdiv_eq_ediv_of_nonneg _ (by decide)];omega
theorem zh5 {a:Option Addr} {n c:Nat} {bs:List UInt8} (hN:NewSl M0 T.zn 1 a n c (bs.map zl) M) (hn:n≤2000000) {la:Option Addr} {ln lc:Nat} {xs:List Int} (hl:SrcOk M 1 la ln (xs.map zaa)) (hln:ln≤1000000) (hx:∀ x∈xs,0≤x∧x≤65535) :
  CallsM Tryz.prog F.zcd [.slice a n c,.slice la ln lc] M fun v M'=>∃ a' c',v = .slice a' (n+2*ln) c'∧NewSl M0 T.zn 1 a' (n+2*ln) c' ((bs++zV xs).map zl) M'∧M.le M':=by
 refine zxr (by simp) ?_;have hll:=hl.maplen
 refine zR ?_
 refine za6 (σ:=Nat×Mem×Option Addr×Nat×Nat) [9,0] (fun y=>[(9,.int .i64 y.1),(0,.slice y.2.2.1 y.2.2.2.1 y.2.2.2.2)]) (fun _=>[]) (fun y=>y.2.1)
  (fun|⟨i,Mc,a',m,c'⟩=>i≤ln∧m=n+2*i∧NewSl M0 T.zn 1 a' m c' ((bs++zV (xs.take i)).map zl) Mc∧M.le Mc) (fun y=>ln - y.1) ⟨0,M,a,n,c⟩ ⟨by omega,by omega,by simpa[zV] using hN,Mem.le_refl _⟩ zS ?_
 rintro ⟨i,Mc,a',m,c'⟩ ⟨hi,rfl,hN2,hle⟩;(conv=>whnf);refine brn (fun e=>?_) (fun e=>?_)
 ·have hlt:i<ln:=by have:=Zd0 e;dsimp only at this;omega
  obtain⟨hk1,b1,o1,e1,hr1⟩:=(hl.le hle).at (i:=i) hlt;have hxi:=hx _ (List.getElem_mem hk1)
  have htk:zV (xs.take (i+1))=zV (xs.take i)++be 2 xs[i]:=by
   unfold zV;rw[List.take_add_one,List.getElem?_eq_getElem hk1,List.flatMap_append];simp
  generalize xs[i]=x at *;have hw:IntKind.u64.wrap x=x:=by simp[IntKind.wrap,IntKind.signed,IntKind.bits];omega
  (conv=>whnf);refine ob (by first|omega|(dsimp only;omega)) ?_;(conv=>whnf);refine atp e1 ?_;(conv=>whnf);refine on hr1 ?_;(conv=>whnf)
  rw[show IntKind.u64.wrap x=x from hw];refine(zfW a' (n+2*i) c' x 2 Mc _ hN2.src (by omega)).mono ?_;rintro v M2 (⟨h0, -⟩|⟨-, a2,c2,rfl,hO⟩)
  ·exact absurd (zDm hxi) h0
  refine zR ?_;refine ob (zd (by first|omega|(dsimp only;omega))) ?_;(conv=>whnf)
  have hO2:NewSl Mc T.zn 1 a2 (n+2*i+(2:Int).toNat) c2 ((bs++zV (xs.take i)++be (2:Int).toNat x).map zl) M2:=by unfold NewSl;exact⟨Mc,Mem.le_refl _,hO⟩
  have e2:n+2*i+(2:Int).toNat=n+2*(i+1):=by show n+2*i+2=_;omega
  have e3:bs++zV (xs.take i)++be (2:Int).toNat x=bs++zV (xs.take (i+1)):=by rw[htk,←List.append_assoc];rfl
  rw[e2,e3] at hO2;refine⟨⟨i+1,M2,a2,n+2*(i+1),c2⟩,⟨by omega,rfl,hO2.mono hN2.le,Mem.le_trans hle hO2.le⟩,by dsimp only;omega,?_⟩;rw[←e2];exact zS
 ·have hge:i=ln:=by have:=Zd1 e;dsimp only at this;omega
  subst hge;rw[List.take_of_length_le (by omega)] at hN2;refine zR ?_;exact⟨a',c',rfl,hN2,hle⟩
end
end Go.Proofs.YtpdkkbpkplhdpaaGreat
namespace Go.Proofs.YtpdkkbpkplhdpaaGreat
open Go Go.Vm
attribute [local irreducible] Brn Ob Grow CallsM inR zax Mem.row Mem.cells Mem.setCells Mem.upd Go.Vm.Own zaD za5 zbc zaJ New SrcOk subA NewSl
def zu (x:Int):UInt8:=UInt8.ofNat (x % 256).toNat
theorem zb9 (x:Int):Value.int .u8 (IntKind.u8.wrap x)=zl (zu x):=by
 have h:IntKind.u8.wrap x=x % 256:=by simp[IntKind.wrap,IntKind.signed,IntKind.bits]
 rw[h];simp only[zl,zu];congr 1;have:0≤x % 256∧x % 256<256:=by omega
 simp;omega
def two (x:Int):List UInt8:=[zu (x / 256),zu x]
theorem zAR (x:Int):be 2 x=two x:=by
 simp[be,two,zdf,zu,Int.fdiv_eq_ediv]
def zZ (o d e c:Int):List UInt8:=[zu o,zu d]++two e++two c
set_option maxRecDepth 10000 in
theorem zqx (o d e c:Int) (M:Mem):CallsM Tryz.prog F.zhP [.agg #[.int .i64 o,.int .i64 d,.int .i64 e,.int .i64 c]] M fun v M'=>(za4 o d e c≠0∧v = .tuple #[.slice none 0 0,.int .i64 (za4 o d e c)]∧M=M') ∨
   (za4 o d e c=0∧∃ a' c',v = .tuple #[.slice a' 6 c',.int .i64 0]∧NewSl M T.zn 1 a' 6 c' ((zZ o d e c).map zl) M'):=by
 refine zvN (by simp) ?_;(conv=>whnf)
 refine(zgG _ _ _ _ _).mono ?_;rintro v M' ⟨rfl,rfl⟩;(conv=>whnf)
 refine brn (fun h=>?_) (fun h=>?_)
 ·(conv=>whnf);exact .inl ⟨by simpa using h,rfl,rfl⟩
 ·have hid:za4 o d e c=0:=by simpa using h
  obtain⟨ho,hd,he,hc,hne⟩:(0≤o∧o≤63)∧(0≤d∧d≤63)∧(1≤e∧e≤65535)∧(1≤c∧c≤65535)∧o≠d:=by
   unfold za4 at hid;split at hid
   ·split at hid<;>omega
   ·omega
  have hwe:IntKind.u64.wrap e=e:=by simp[IntKind.wrap,IntKind.signed,IntKind.bits];omega
  have hwc:IntKind.u64.wrap c=c:=by simp[IntKind.wrap,IntKind.signed,IntKind.bits];omega
  have hpe:zcO e 2=0:=by simp[zcO,Int.fdiv_eq_ediv];omega
  have hpc:zcO c 2=0:=by simp[zcO,Int.fdiv_eq_ediv];omega
  (conv=>whnf);refine new (fun b hb=>?_);replace hb:M b=none:=hb;(conv=>whnf)
  rw[hwe,zb9,zb9];refine(zfW _ _ _ _ _ _ [zu o,zu d] (NewSl.lit hb T.zn 1 2 _ rfl).src (by omega)).mono ?_;rintro v M1 (⟨h1, -⟩|⟨-, a1,c1,rfl,h1⟩)
  ·exact absurd hpe h1
  (conv=>whnf);rw[hwc];refine(zfW _ _ _ _ _ _ _ h1.new.src (by decide)).mono ?_;rintro v M2 (⟨h2, -⟩|⟨-, a2,c2,rfl,h2⟩)
  ·exact absurd hpc h2
  (conv=>whnf);refine .inr ⟨hid,a2,c2,rfl,?_⟩;have h3:=(h2.new.mono h1.base).mono (Mem.le_setCells hb)
  simpa[zZ,zAR] using h3
end Go.Proofs.YtpdkkbpkplhdpaaGreat
