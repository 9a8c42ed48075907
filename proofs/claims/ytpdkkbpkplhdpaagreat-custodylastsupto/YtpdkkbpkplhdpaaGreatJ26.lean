/- Part of this proof;laid by program. -/
import Derived.Test.YtpdkkbpkplhdpaaGreatJ25
set_option linter.unusedVariables false
set_option linter.unusedSimpArgs false
namespace Go.Proofs.YtpdkkbpkplhdpaaGreat
open Go Go.Vm
attribute [local irreducible] Brn Ob Grow CallsM inR zax zav Mem.row Mem.cells Mem.setCells Mem.upd Go.Vm.Own zaD za5 zbc zaJ New SrcOk subA NewSl Mem.textAt Mem.mapAt Mem.iterAt zau zaj Wr NewEls Elems
set_option maxRecDepth 10000
section
variable {M M0:Mem}
variable {s:zhp} {ua ha ma:Option Addr} {un uc hn hc mn mc:Nat} {ms:List MX} {mk:List MkC}
theorem zlA {a:Option Addr} {n c:Nat} {bs:List UInt8} (hN:NewSl M0 T.zn 1 a n c (bs.map zl) M) (hn:n≤2000000) {b:Nat} (hb:M b=none) {xs:List Int} {k:Nat} (hk:xs.length=k) (hl:k≤1000000) (hx:∀ x∈xs,0≤x∧x≤65535) {kc:Nat} :
  CallsM Tryz.prog F.zcd [.slice a n c,.slice (some ⟨b,0,none⟩) k kc] (M.setCells b T.zr (xs.map zaa)) fun v M'=>∃ a' c',v = .slice a' (n+2*k) c'∧NewSl M0 T.zn 1 a' (n+2*k) c' ((bs++zV xs).map zl) M'∧M.le M':=by
 have hle:M.le (M.setCells b T.zr (xs.map zaa)):=Mem.le_setCells hb;refine(zh5 (hN.up hle) hn (SrcOk.lit (by simp[hk])) hl hx).mono ?_;rintro v M' ⟨a',c',h1,h2,h3⟩;exact⟨a',c',h1,h2,Mem.le_trans hle h3⟩
theorem zol {m:Mk}:∀ {l:List Mk},m∈l→m.more.length≤zcE l
 | x::r,h=>by
  simp only[zcE,List.map_cons,List.sum_cons];rcases List.mem_cons.1 h with rfl|h
  ·omega
  ·have:=zol h;simp only[zcE] at this;omega
theorem Chain.range:∀ {l:List Int} {last:Int},Chain last l→0≤last→∀ c∈l,0≤c∧c≤65535
 | x::r,last,h,h0,c,hc=>by
  obtain⟨h1,h2,h3⟩:=h;rcases List.mem_cons.1 hc with rfl|hc
  ·omega
  ·exact Chain.range h3 (by omega) c hc
theorem zqz (s:zhp):zcM s=([zu s.self]++zV [s.epoch])++[zu s.ul.length]:=by simp[zcM]
set_option maxHeartbeats 1000000 in
theorem zzC (h:zrT M s ua un ha hn hc ma mn ms mk) (hR:SnapOk s):CallsM Tryz.prog F.zlU [zhV s.self s.epoch ua un uc ha hn hc ma mn mc] M fun v M'=>
  ∃ a c,v = .tuple #[.slice a (zaq s).length c,.int .i64 0]∧NewSl M T.zn 1 a (zaq s).length c ((zaq s).map zl) M':=by
 refine zxj (by simp) ?_;have hul:=h.stat.used.flen zcD (by decide)
 have hhl:=h.stat.held.len;have hml:=h.stat.seen.len
 have hep:=hR.form.1.2;obtain⟨bg1,bg2,bg3,bg4,bg5,bg6⟩:=h.big
 have hun:un≤64:=by
  have h1:=zmv hR.form.1.1;have h2:(zG (zaL s.ul)).length≤(zaL s.ul).length:=zc5 _ 0
  rw[h1,zb8,hul] at h2;exact h2
 refine zR ?_;refine(zn7 h hR).mono ?_;rintro v M1 ⟨rfl,hle1⟩;refine zR ?_;(conv=>whnf);refine new (fun b1 hb1=>?_);replace hb1:M1 b1=none:=hb1;have hN1:NewSl M1 T.zn 1 (some ⟨b1,0,none⟩) 1 1 (([zu s.self]:List UInt8).map zl) (M1.setCells b1 T.zn (([zu s.self]:List UInt8).map zl)):=NewSl.lit hb1 T.zn 1 1 _ rfl
 obtain⟨M2,hM2⟩:∃ M2,M2=M1.setCells b1 T.zn (([zu s.self]:List UInt8).map zl):=⟨_,rfl⟩
 rw[←hM2] at hN1;(conv=>whnf)
 rw[zb9];erw [←hM2];(conv=>whnf);refine new (fun b2 hb2=>?_);(conv=>whnf)
 refine(zlA hN1 (by decide) hb2 (xs:=[s.epoch]) (k:=1) rfl (by decide) (by simp;omega)).mono ?_;rintro v M3 ⟨a3,c3,rfl,hN3, -⟩;have hN3':=hN3.mono hle1
 refine zR ?_;(conv=>whnf)
 rw[zb9];refine zB4 M hN3' (by first|omega|(dsimp only;omega)) fun a4 c4 M4 hN4=>?_
 have hhd:([zu s.self]++zV [s.epoch])++[zu (un:Int)]=zcM s:=by rw[zqz,hul]
 rw[hhd] at hN4;have hle4:=hN4.le
 refine zR ?_;have hbs:(zcM s).length=4:=by rw[zqz,List.length_append,List.length_append,za0];rfl
 refine za6 (σ:=Nat×Mem×Option Addr×Nat) [37,5] (fun y=>[(37,.int .i64 y.1),(5,.slice y.2.2.1 (4+3*y.1) y.2.2.2)]) (fun _=>[.live T.zaP [.v (.int .i64 s.self),.v (.int .i64 s.epoch),.v (.slice ua un uc),.v (.slice ha hn hc),.v (.slice ma mn mc)]]) (fun y=>y.2.1)
  (fun|⟨i,Mc,a,c⟩=>i≤un∧NewSl M T.zn 1 a (4+3*i) c ((zcM s++zbA (s.ul.take i)).map zl) Mc) (fun y=>un - y.1) ⟨0,M4,a4,c4⟩ ⟨by omega,by simpa[zbA] using hN4⟩ zS ?_
 rintro ⟨i,Mc,ac,cc⟩ ⟨hi,hNc⟩;(conv=>whnf);refine brn (fun e=>?_) (fun e=>?_)
 ·have hlt:i<un:=by have:=Zd0 e;dsimp only at this;omega
  have hx:s.ul[i]? = some (s.ul[i]'(by omega)):=List.getElem?_eq_getElem (by omega);have hmem:=List.mem_of_getElem? hx
  have hxr:=hR.form.1.1.each _ hmem;have htk:=zxK (l:=s.ul) (i:=i) (by omega)
  obtain⟨b5,o5,ha5,hc5⟩:=h.stat.used.fparts zcD (by decide) hx;generalize s.ul[i]'(by omega)=x at *;(conv=>whnf);refine ob (by first|omega|(dsimp only;omega)) ?_;(conv=>whnf);refine atp ha5 ?_;(conv=>whnf);refine on (Mem.row_le hNc.le (hc5 0 2 (by decide))) ?_;(conv=>whnf)
  refine⟨M,hNc.le,?_⟩
  repeat' ((conv=>whnf);first|refine⟨?_,True.intro⟩|refine⟨?_,?_,True.intro⟩|refine brn_t rfl ?_|refine brn_f rfl ?_|refine ob rfl ?_|refine ob (by decide) ?_|refine grow_same (Mem.le_refl _) ?_|refine ob (Mem.le_refl _) ?_|refine⟨_,Mem.le_refl _,?_⟩|fail)
  ·(conv=>whnf);rw[zb9];refine zB4 M hNc (by first|omega|(dsimp only;omega)) fun a5 c5 M5 hN5=>?_
   refine zT (hN5.le) ?_
   repeat' ((conv=>whnf);first|refine⟨?_,True.intro⟩|refine⟨?_,?_,True.intro⟩|refine brn_t rfl ?_|refine brn_f rfl ?_|refine ob rfl ?_|refine ob (by decide) ?_|refine grow_same (Mem.le_refl _) ?_|refine ob (Mem.le_refl _) ?_|refine⟨_,Mem.le_refl _,?_⟩|fail)
   (conv=>whnf);refine new (fun b6 hb6=>?_)
   repeat' ((conv=>whnf);first|refine⟨?_,True.intro⟩|refine⟨?_,?_,True.intro⟩|refine brn_t rfl ?_|refine brn_f rfl ?_|refine ob rfl ?_|refine ob (by decide) ?_|refine grow_same (Mem.le_refl _) ?_|refine ob (Mem.le_refl _) ?_|refine⟨_,Mem.le_refl _,?_⟩|fail)
   (conv=>whnf);refine(zlA hN5 (by first|omega|(dsimp only;omega)) hb6 (xs:=[x.2]) (k:=1) rfl (by decide) (by simp;omega)).mono ?_;rintro v M7 ⟨a7,c7,rfl,hN7, -⟩
   repeat' ((conv=>whnf);first|refine⟨?_,True.intro⟩|refine⟨?_,?_,True.intro⟩|refine brn_t rfl ?_|refine brn_f rfl ?_|refine ob rfl ?_|refine ob (by decide) ?_|refine grow_same (Mem.le_refl _) ?_|refine ob (Mem.le_refl _) ?_|refine⟨_,Mem.le_refl _,?_⟩|fail)
   refine ob (zd (by first|omega|(dsimp only;omega))) ?_;(conv=>whnf)
   have e1:∀ t:List UInt8,t++(zu x.1::zV [x.2])=t++[zu x.1]++zV [x.2]:=fun t=>by simp
   have e2:zcM s++zbA (s.ul.take i)++[zu x.1]++zV [x.2]=zcM s++zbA (s.ul.take (i+1)):=by rw[htk,←List.append_assoc,e1]
   rw[e2] at hN7;have e3:4+3*i+1+2*1=4+3*(i+1):=by omega
   rw[e3] at hN7;refine⟨⟨i+1,M7,a7,c7⟩,⟨by omega,hN7⟩,by dsimp only;omega,?_⟩;dsimp only;rw[←e3];exact zS
  ·(conv=>whnf);refine new (fun b6 hb6=>?_);replace hb6:Mc b6=none:=hb6
   repeat' ((conv=>whnf);first|refine⟨?_,True.intro⟩|refine⟨?_,?_,True.intro⟩|refine brn_t rfl ?_|refine brn_f rfl ?_|refine ob rfl ?_|refine ob (by decide) ?_|refine grow_same (Mem.le_refl _) ?_|refine ob (Mem.le_refl _) ?_|refine⟨_,Mem.le_refl _,?_⟩|fail)
   (conv=>whnf);rw[zb9];refine zrU M (hNc.up (Mem.le_setCells hb6)) (by first|omega|(dsimp only;omega)) fun a5 c5 M5 hN5 hk5=>?_
   have hx5:=zmD hNc hb6 hk5;refine zT (hN5.le) ?_
   repeat' ((conv=>whnf);first|refine⟨?_,True.intro⟩|refine⟨?_,?_,True.intro⟩|refine brn_t rfl ?_|refine brn_f rfl ?_|refine ob rfl ?_|refine ob (by decide) ?_|refine grow_same (Mem.le_refl _) ?_|refine ob (Mem.le_refl _) ?_|refine⟨_,Mem.le_refl _,?_⟩|fail)
   refine(zh5 hN5 (by first|omega|(dsimp only;omega)) (xs:=[x.2]) (hx5.src rfl) (by decide) (by simp;omega)).mono ?_;rintro v M7 ⟨a7,c7,rfl,hN7, -⟩;replace hN7:NewSl M T.zn 1 a7 (4+3*i+1+2*1) c7 _ M7:=hN7
   repeat' ((conv=>whnf);first|refine⟨?_,True.intro⟩|refine⟨?_,?_,True.intro⟩|refine brn_t rfl ?_|refine brn_f rfl ?_|refine ob rfl ?_|refine ob (by decide) ?_|refine grow_same (Mem.le_refl _) ?_|refine ob (Mem.le_refl _) ?_|refine⟨_,Mem.le_refl _,?_⟩|fail)
   refine ob (zd (by first|omega|(dsimp only;omega))) ?_;(conv=>whnf)
   have e1:∀ t:List UInt8,t++(zu x.1::zV [x.2])=t++[zu x.1]++zV [x.2]:=fun t=>by simp
   have e2:zcM s++zbA (s.ul.take i)++[zu x.1]++zV [x.2]=zcM s++zbA (s.ul.take (i+1)):=by rw[htk,←List.append_assoc,e1]
   rw[e2] at hN7;have e3:4+3*i+1+2*1=4+3*(i+1):=by omega
   rw[e3] at hN7;refine⟨⟨i+1,M7,a7,c7⟩,⟨by omega,hN7⟩,by dsimp only;omega,?_⟩;dsimp only;rw[←e3];exact zS
  ·(conv=>whnf);refine new (fun b6 hb6=>?_);replace hb6:Mc b6=none:=hb6
   repeat' ((conv=>whnf);first|refine⟨?_,True.intro⟩|refine⟨?_,?_,True.intro⟩|refine brn_t rfl ?_|refine brn_f rfl ?_|refine ob rfl ?_|refine ob (by decide) ?_|refine grow_same (Mem.le_refl _) ?_|refine ob (Mem.le_refl _) ?_|refine⟨_,Mem.le_refl _,?_⟩|fail)
   (conv=>whnf);rw[zb9];refine zrU M (hNc.up (Mem.le_setCells hb6)) (by first|omega|(dsimp only;omega)) fun a5 c5 M5 hN5 hk5=>?_
   have hx5:=zmD hNc hb6 hk5;refine zT (hN5.le) ?_
   repeat' ((conv=>whnf);first|refine⟨?_,True.intro⟩|refine⟨?_,?_,True.intro⟩|refine brn_t rfl ?_|refine brn_f rfl ?_|refine ob rfl ?_|refine ob (by decide) ?_|refine grow_same (Mem.le_refl _) ?_|refine ob (Mem.le_refl _) ?_|refine⟨_,Mem.le_refl _,?_⟩|fail)
   refine(zh5 hN5 (by first|omega|(dsimp only;omega)) (xs:=[x.2]) (hx5.src rfl) (by decide) (by simp;omega)).mono ?_;rintro v M7 ⟨a7,c7,rfl,hN7, -⟩;replace hN7:NewSl M T.zn 1 a7 (4+3*i+1+2*1) c7 _ M7:=hN7
   repeat' ((conv=>whnf);first|refine⟨?_,True.intro⟩|refine⟨?_,?_,True.intro⟩|refine brn_t rfl ?_|refine brn_f rfl ?_|refine ob rfl ?_|refine ob (by decide) ?_|refine grow_same (Mem.le_refl _) ?_|refine ob (Mem.le_refl _) ?_|refine⟨_,Mem.le_refl _,?_⟩|fail)
   refine ob (zd (by first|omega|(dsimp only;omega))) ?_;(conv=>whnf)
   have e1:∀ t:List UInt8,t++(zu x.1::zV [x.2])=t++[zu x.1]++zV [x.2]:=fun t=>by simp
   have e2:zcM s++zbA (s.ul.take i)++[zu x.1]++zV [x.2]=zcM s++zbA (s.ul.take (i+1)):=by rw[htk,←List.append_assoc,e1]
   rw[e2] at hN7;have e3:4+3*i+1+2*1=4+3*(i+1):=by omega
   rw[e3] at hN7;refine⟨⟨i+1,M7,a7,c7⟩,⟨by omega,hN7⟩,by dsimp only;omega,?_⟩;dsimp only;rw[←e3];exact zS
 have hge:un=i:=by have:=Zd1 e;dsimp only at this;omega
 subst hge;rw[List.take_of_length_le (by omega)] at hNc;refine zR ?_;(conv=>whnf);refine new (fun b8 hb8=>?_);(conv=>whnf)
 have hh256:s.hs.length≤256:=by have:=hR.full;unfold zfa at this;omega
 have hhn:s.hs.length=hn:=by rw[←h.held,List.length_map];exact hhl
 refine(zlA hNc (by omega) hb8 (xs:=[(hn:Int)]) (k:=1) rfl (by decide) (by simp;omega)).mono ?_;rintro v M9 ⟨a9,c9,rfl,hN9, -⟩;obtain⟨P,hP⟩:∃ P,P=zcM s++zbA s.ul++zV [(hn:Int)]:=⟨_,rfl⟩
 have hPl:4+3*un+2*1=(P++zaM (s.hs.take 0)).length:=by
  rw[hP,List.take_zero,List.length_append,List.length_append,List.length_append,zmB,hbs,hul];rfl
 have hP0:P++zaM (s.hs.take 0)=zcM s++zbA s.ul++zV [(hn:Int)]:=by rw[hP];simp[zaM]
 rw[hPl,←hP0] at hN9;rw[hPl];clear hP0;refine zR ?_
 refine za6 (σ:=Nat×Mem×Option Addr×Nat) [61,5] (fun y=>[(61,.int .i64 y.1),(5,.slice y.2.2.1 (P++zaM (s.hs.take y.1)).length y.2.2.2)]) (fun _=>[.live T.zaP [.v (.int .i64 s.self),.v (.int .i64 s.epoch),.v (.slice ua un uc),.v (.slice ha hn hc),.v (.slice ma mn mc)]]) (fun y=>y.2.1)
  (fun|⟨i,Mc,a,c⟩=>i≤hn∧NewSl M T.zn 1 a (P++zaM (s.hs.take i)).length c ((P++zaM (s.hs.take i)).map zl) Mc) (fun y=>hn - y.1) ⟨0,M9,a9,c9⟩ ⟨by omega,hN9⟩ zS ?_
 clear hN9 hNc;rintro ⟨j,Mc,ac,cc⟩ ⟨hj,hNc⟩
 have hPb:P.length≤300:=by
  have:P.length=4+3*un+2*1:=by rw[hPl];simp[zaM]
  omega
 have hbytes:∀ k,(zaM (s.hs.take k)).length≤55*k:=fun k=>by
  induction k with
  | zero=>simp[zaM]
  | succ k ih=>
   by_cases hk:k<s.hs.length
   ·rw[zmC hk,List.length_append,List.length_cons,List.length_append,zbp];have:=(za8 (hR.form.2.1.1 _ (List.getElem_mem hk)).1).2.2
    omega
   ·rw[List.take_of_length_le (by omega)] at ih ⊢;omega
 have hbj:=hbytes j;(conv=>whnf);refine brn (fun e=>?_) (fun e=>?_)
 ·have hlt:j<hn:=by have:=Zd0 e;dsimp only at this;omega
  have hx:ms[j]? = some (ms[j]'(by omega)):=List.getElem?_eq_getElem (by omega);have hmem:=List.mem_of_getElem? hx
  have hdat:=h.stat.held.data _ hmem;have htk:=zmC (l:=s.hs) (i:=j) (by omega)
  have hsj:s.hs[j]'(by omega)=(ms[j]'(by omega)).msg:=by simp[←h.held]
  have hok:=hR.form.2.1.1 _ (List.getElem_mem (l:=s.hs) (n:=j) (by omega));rw[hsj] at htk hok;obtain⟨b5,o5,ha5,hc5⟩:=h.stat.held.row.fparts ze9 (by decide) hx;generalize ms[j]'(by omega)=x at *;have hpl:=(za8 hok.1).2.2
  dsimp only [MX.msg] at htk hok hpl;(conv=>whnf);refine ob (by first|omega|(dsimp only;omega)) ?_;(conv=>whnf);refine atp ha5 ?_;(conv=>whnf);refine on (Mem.row_le hNc.le (hc5 0 5 (by decide))) ?_;refine zR ?_;refine(ztC x.id (hdat.le hNc.le) hok.1).mono ?_;rintro v M3 ⟨a3,c3,rfl,hN3⟩;refine zR ?_;(conv=>whnf)
  rw[zb9];refine zrU M (hNc.up hN3.le) (by dsimp only;rw[List.length_append];omega) fun a4 c4 M4 hN4 hk4=>?_
  have hs4:=(hN3.wr.mono fun q o hq ho=>hk4 q.block o (fun ⟨q2,hq2,e2⟩=>by
   obtain⟨-, cs,hh⟩:=hNc.block hq2;rw[e2] at hh;unfold Mem.has at hh;rw[(hN3.block hq).1] at hh
   cases hh) ho).src
  refine zR ?_;refine zdR hs4 ?_;(conv=>whnf);refine zCy M hN4 (by dsimp only;rw[List.length_append];omega) fun a5 c5 M5 hN5=>?_
  have e2:P++zaM (s.hs.take j)++[zu ((6+x.p.length:Nat):Int)]++(zZ x.id.o x.id.d x.id.e x.id.c++x.p)=P++zaM (s.hs.take (j+1)):=by
   rw[htk];simp
  rw[e2] at hN5
  have e3:(P++zaM (s.hs.take j)).length+1+(6+x.p.length)=(P++zaM (s.hs.take (j+1))).length:=by
   rw[←e2];simp only[List.length_append,List.length_cons,List.length_nil,zbp]
  dsimp only;rw[e3] at hN5 ⊢;refine zR ?_;refine ob (zd (by first|omega|(dsimp only;omega))) ?_;(conv=>whnf)
  exact⟨⟨j+1,M5,a5,c5⟩,⟨by omega,hN5⟩,by dsimp only;omega,zS⟩
 have hge:hn=j:=by have:=Zd1 e;dsimp only at this;omega
 subst hge;have hz:s.hs.take hn=s.hs:=List.take_of_length_le (by omega)
 rw[hz] at hbj;have hmml:s.sn.length=mn:=by rw[←h.seen,List.length_map];exact hml
 have hfew:=hR.few;refine zR ?_;(conv=>whnf);refine new (fun b8 hb8=>?_);(conv=>whnf)
 refine(zlA hNc (by rw[List.length_append,hz];omega) hb8 (xs:=[(mn:Int)]) (k:=1) rfl (by decide) (by simp;omega)).mono ?_;rintro v M9 ⟨a9,c9,hv9,hN9, -⟩;rw[hz] at hv9 hN9;subst hv9;obtain⟨Q,hQ⟩:∃ Q,Q=P++zaM s.hs++zV [(mn:Int)]:=⟨_,rfl⟩
 have hQb:Q.length≤15000:=by rw[hQ,List.length_append,List.length_append,za0];simp;omega
 have hPl:(P++zaM s.hs).length+2*1=(Q++zO (s.sn.take 0)).length:=by
  rw[hQ,List.take_zero,List.length_append,List.length_append,List.length_append,List.length_append,za0];simp[zO]
 have hP0:Q++zO (s.sn.take 0)=P++zaM s.hs++zV [(mn:Int)]:=by rw[hQ];simp[zO]
 have hN9':NewSl M T.zn 1 a9 (Q++zO (s.sn.take 0)).length c9 ((Q++zO (s.sn.take 0)).map zl) M9:=by rw[←hPl,hP0];exact hN9
 clear hP0 hN9 hNc;refine zR ?_
 refine za6 (σ:=Nat×Mem×Option Addr×Nat) [88,5] (fun y=>[(88,.int .i64 y.1),(5,.slice y.2.2.1 (Q++zO (s.sn.take y.1)).length y.2.2.2)]) (fun _=>[.live T.zaP [.v (.int .i64 s.self),.v (.int .i64 s.epoch),.v (.slice ua un uc),.v (.slice ha hn hc),.v (.slice ma mn mc)]]) (fun y=>y.2.1)
  (fun|⟨i,Mc,a,c⟩=>i≤mn∧NewSl M T.zn 1 a (Q++zO (s.sn.take i)).length c ((Q++zO (s.sn.take i)).map zl) Mc) (fun y=>mn - y.1) ⟨0,M9,a9,c9⟩ ⟨by omega,hN9'⟩ ?_ ?_
 ·dsimp only;rw[←hPl];exact zS
 rintro ⟨j2,Mc,ac,cc⟩ ⟨hj2,hNc⟩
 have hmlen:∀ m∈s.sn,m.more.length≤256:=fun m hm=>by
  have h1:m.more.length≤zcE s.sn:=by
   exact zol hm
  have:=hR.full;unfold zfa at this;omega
 have hmB:∀ m:Mk,(zfc m).length=7+2*m.more.length:=fun m=>by
  unfold zfc;rw[List.length_cons,List.length_append,za0,za0];simp;omega
 have hbytes:∀ k,(zO (s.sn.take k)).length≤7*s.sn.length+2*zcE s.sn:=fun k=>by
  have key:∀ (l:List Mk) (k:Nat),(zO (l.take k)).length≤7*l.length+2*zcE l:=fun l=>by
   induction l with
   | nil=>intro k;simp[zO]
   | cons x r ih=>
    intro k;cases k with
    | zero=>simp[zO]
    | succ k=>
     have h1:=ih k;have h2:zO ((x::r).take (k+1))=zfc x++zO (r.take k):=by simp[zO]
     have h3:zcE (x::r)=x.more.length+zcE r:=by simp[zcE]
     rw[h2,List.length_append,hmB,h3,List.length_cons];omega
  exact key s.sn k
 have hsm:zcE s.sn≤256:=by have:=hR.full;unfold zfa at this;omega
 have hbj:=hbytes j2;(conv=>whnf);refine brn (fun e=>?_) (fun e=>?_)
 ·have hlt:j2<mn:=by have:=Zd0 e;dsimp only at this;omega
  have hx:mk[j2]? = some (mk[j2]'(by omega)):=List.getElem?_eq_getElem (by omega);have hmem:=List.mem_of_getElem? hx
  have hdat:=h.stat.seen.more _ hmem;have htk:=zps (l:=s.sn) (i:=j2) (by omega)
  have hsj:s.sn[j2]'(by omega)=(mk[j2]'(by omega)).mk':=by simp[←h.seen]
  have hok:=hR.form.2.2.2.1 _ (List.getElem_mem (l:=s.sn) (n:=j2) (by omega));have hml2:=hmlen _ (List.getElem_mem (l:=s.sn) (n:=j2) (by omega))
  rw[hsj] at htk hok hml2;obtain⟨b5,o5,ha5,hc5⟩:=h.stat.seen.row.fparts zaS (by decide) hx;generalize mk[j2]'(by omega)=x at *;obtain⟨xo,xe,xu,xa,xc,xm⟩:=x;dsimp only [MkC.mk'] at htk hok hml2 hdat;obtain⟨⟨r1,r2,r3,r4,r5,r6⟩,r7,r8⟩:=hok
  have hx3:∀ c∈[xe,xu,(xm.length:Int)],0≤c∧c≤65535:=fun c hc=>by
   simp only[List.mem_cons,List.not_mem_nil,or_false] at hc;dsimp only at r3 r4 r5 r6;rcases hc with rfl|rfl|rfl<;>omega
  have hla:(Q++zO (s.sn.take j2)).length=Q.length+(zO (s.sn.take j2)).length:=List.length_append;dsimp only at r5;(conv=>whnf);refine ob (by first|omega|(dsimp only;omega)) ?_;(conv=>whnf);refine atp ha5 ?_;(conv=>whnf);refine on (Mem.row_le hNc.le (hc5 0 4 (by decide))) ?_;(conv=>whnf)
  refine⟨M,hNc.le,?_⟩
  repeat' ((conv=>whnf);first|refine⟨?_,True.intro⟩|refine⟨?_,?_,True.intro⟩|refine brn_t rfl ?_|refine brn_f rfl ?_|refine ob rfl ?_|refine ob (by decide) ?_|refine grow_same (Mem.le_refl _) ?_|refine ob (Mem.le_refl _) ?_|refine⟨_,Mem.le_refl _,?_⟩|fail)
  ·(conv=>whnf);rw[zb9];refine zB4 M hNc (by dsimp only;rw[List.length_append];omega) fun a5 c5 M5 hN5=>?_
   refine zT (hN5.le) ?_
   repeat' ((conv=>whnf);first|refine⟨?_,True.intro⟩|refine⟨?_,?_,True.intro⟩|refine brn_t rfl ?_|refine brn_f rfl ?_|refine ob rfl ?_|refine ob (by decide) ?_|refine grow_same (Mem.le_refl _) ?_|refine ob (Mem.le_refl _) ?_|refine⟨_,Mem.le_refl _,?_⟩|fail)
   (conv=>whnf);refine new (fun b6 hb6=>?_)
   repeat' ((conv=>whnf);first|refine⟨?_,True.intro⟩|refine⟨?_,?_,True.intro⟩|refine brn_t rfl ?_|refine brn_f rfl ?_|refine ob rfl ?_|refine ob (by decide) ?_|refine grow_same (Mem.le_refl _) ?_|refine ob (Mem.le_refl _) ?_|refine⟨_,Mem.le_refl _,?_⟩|fail)
   (conv=>whnf);refine(zlA hN5 (by dsimp only;rw[List.length_append];omega) hb6 (xs:=[xe,xu,(xm.length:Int)]) (k:=3) rfl (by decide) hx3).mono ?_;rintro v M7 ⟨a7,c7,rfl,hN7, -⟩
   repeat' ((conv=>whnf);first|refine⟨?_,True.intro⟩|refine⟨?_,?_,True.intro⟩|refine brn_t rfl ?_|refine brn_f rfl ?_|refine ob rfl ?_|refine ob (by decide) ?_|refine grow_same (Mem.le_refl _) ?_|refine ob (Mem.le_refl _) ?_|refine⟨_,Mem.le_refl _,?_⟩|fail)
   (conv=>whnf);refine(zh5 hN7 (by first|omega|(dsimp only;omega)) (xs:=xm) (hdat.le hN7.le) (by omega) (fun c hc=>Chain.range r8 (by dsimp only;omega) c hc)).mono ?_;rintro v M8 ⟨a8,c8,rfl,hN8, -⟩
   repeat' ((conv=>whnf);first|refine⟨?_,True.intro⟩|refine⟨?_,?_,True.intro⟩|refine brn_t rfl ?_|refine brn_f rfl ?_|refine ob rfl ?_|refine ob (by decide) ?_|refine grow_same (Mem.le_refl _) ?_|refine ob (Mem.le_refl _) ?_|refine⟨_,Mem.le_refl _,?_⟩|fail)
   refine ob (zd (by first|omega|(dsimp only;omega))) ?_;(conv=>whnf)
   have e2:Q++zO (s.sn.take j2)++[zu xo]++zV [xe,xu,(xm.length:Int)]++zV xm=Q++zO (s.sn.take (j2+1)):=by rw[htk];simp[zfc]
   have e3:(Q++zO (s.sn.take j2)).length+1+2*3+2*xm.length=(Q++zO (s.sn.take (j2+1))).length:=by
    rw[←e2];simp only[List.length_append,List.length_cons,List.length_nil,za0]
   rw[e2,e3] at hN8;refine⟨⟨j2+1,M8,a8,c8⟩,⟨by omega,hN8⟩,by dsimp only;omega,?_⟩;dsimp only;rw[←e3];exact zS
  ·(conv=>whnf);refine new (fun b6 hb6=>?_);replace hb6:Mc b6=none:=hb6
   repeat' ((conv=>whnf);first|refine⟨?_,True.intro⟩|refine⟨?_,?_,True.intro⟩|refine brn_t rfl ?_|refine brn_f rfl ?_|refine ob rfl ?_|refine ob (by decide) ?_|refine grow_same (Mem.le_refl _) ?_|refine ob (Mem.le_refl _) ?_|refine⟨_,Mem.le_refl _,?_⟩|fail)
   (conv=>whnf);rw[zb9];refine zrU M (hNc.up (Mem.le_setCells hb6)) (by dsimp only;rw[List.length_append];omega) fun a5 c5 M5 hN5 hk5=>?_
   have hx5:=zmD hNc hb6 hk5;refine zT (hN5.le) ?_
   repeat' ((conv=>whnf);first|refine⟨?_,True.intro⟩|refine⟨?_,?_,True.intro⟩|refine brn_t rfl ?_|refine brn_f rfl ?_|refine ob rfl ?_|refine ob (by decide) ?_|refine grow_same (Mem.le_refl _) ?_|refine ob (Mem.le_refl _) ?_|refine⟨_,Mem.le_refl _,?_⟩|fail)
   refine(zh5 hN5 (by dsimp only;rw[List.length_append];omega) (xs:=[xe,xu,(xm.length:Int)]) (hx5.src rfl) (by decide) hx3).mono ?_;rintro v M7 ⟨a7,c7,rfl,hN7, -⟩;replace hN7:NewSl M T.zn 1 a7 ((Q++zO (s.sn.take j2)).length+1+2*3) c7 _ M7:=hN7
   repeat' ((conv=>whnf);first|refine⟨?_,True.intro⟩|refine⟨?_,?_,True.intro⟩|refine brn_t rfl ?_|refine brn_f rfl ?_|refine ob rfl ?_|refine ob (by decide) ?_|refine grow_same (Mem.le_refl _) ?_|refine ob (Mem.le_refl _) ?_|refine⟨_,Mem.le_refl _,?_⟩|fail)
   (conv=>whnf);refine(zh5 hN7 (by first|omega|(dsimp only;omega)) (xs:=xm) (hdat.le hN7.le) (by omega) (fun c hc=>Chain.range r8 (by dsimp only;omega) c hc)).mono ?_;rintro v M8 ⟨a8,c8,rfl,hN8, -⟩
   repeat' ((conv=>whnf);first|refine⟨?_,True.intro⟩|refine⟨?_,?_,True.intro⟩|refine brn_t rfl ?_|refine brn_f rfl ?_|refine ob rfl ?_|refine ob (by decide) ?_|refine grow_same (Mem.le_refl _) ?_|refine ob (Mem.le_refl _) ?_|refine⟨_,Mem.le_refl _,?_⟩|fail)
   refine ob (zd (by first|omega|(dsimp only;omega))) ?_;(conv=>whnf)
   have e2:Q++zO (s.sn.take j2)++[zu xo]++zV [xe,xu,(xm.length:Int)]++zV xm=Q++zO (s.sn.take (j2+1)):=by rw[htk];simp[zfc]
   have e3:(Q++zO (s.sn.take j2)).length+1+2*3+2*xm.length=(Q++zO (s.sn.take (j2+1))).length:=by
    rw[←e2];simp only[List.length_append,List.length_cons,List.length_nil,za0]
   rw[e2,e3] at hN8;refine⟨⟨j2+1,M8,a8,c8⟩,⟨by omega,hN8⟩,by dsimp only;omega,?_⟩;dsimp only;rw[←e3];exact zS
  ·(conv=>whnf);refine new (fun b6 hb6=>?_);replace hb6:Mc b6=none:=hb6
   repeat' ((conv=>whnf);first|refine⟨?_,True.intro⟩|refine⟨?_,?_,True.intro⟩|refine brn_t rfl ?_|refine brn_f rfl ?_|refine ob rfl ?_|refine ob (by decide) ?_|refine grow_same (Mem.le_refl _) ?_|refine ob (Mem.le_refl _) ?_|refine⟨_,Mem.le_refl _,?_⟩|fail)
   (conv=>whnf);rw[zb9];refine zrU M (hNc.up (Mem.le_setCells hb6)) (by dsimp only;rw[List.length_append];omega) fun a5 c5 M5 hN5 hk5=>?_
   have hx5:=zmD hNc hb6 hk5;refine zT (hN5.le) ?_
   repeat' ((conv=>whnf);first|refine⟨?_,True.intro⟩|refine⟨?_,?_,True.intro⟩|refine brn_t rfl ?_|refine brn_f rfl ?_|refine ob rfl ?_|refine ob (by decide) ?_|refine grow_same (Mem.le_refl _) ?_|refine ob (Mem.le_refl _) ?_|refine⟨_,Mem.le_refl _,?_⟩|fail)
   refine(zh5 hN5 (by dsimp only;rw[List.length_append];omega) (xs:=[xe,xu,(xm.length:Int)]) (hx5.src rfl) (by decide) hx3).mono ?_;rintro v M7 ⟨a7,c7,rfl,hN7, -⟩;replace hN7:NewSl M T.zn 1 a7 ((Q++zO (s.sn.take j2)).length+1+2*3) c7 _ M7:=hN7
   repeat' ((conv=>whnf);first|refine⟨?_,True.intro⟩|refine⟨?_,?_,True.intro⟩|refine brn_t rfl ?_|refine brn_f rfl ?_|refine ob rfl ?_|refine ob (by decide) ?_|refine grow_same (Mem.le_refl _) ?_|refine ob (Mem.le_refl _) ?_|refine⟨_,Mem.le_refl _,?_⟩|fail)
   (conv=>whnf);refine(zh5 hN7 (by first|omega|(dsimp only;omega)) (xs:=xm) (hdat.le hN7.le) (by omega) (fun c hc=>Chain.range r8 (by dsimp only;omega) c hc)).mono ?_;rintro v M8 ⟨a8,c8,rfl,hN8, -⟩
   repeat' ((conv=>whnf);first|refine⟨?_,True.intro⟩|refine⟨?_,?_,True.intro⟩|refine brn_t rfl ?_|refine brn_f rfl ?_|refine ob rfl ?_|refine ob (by decide) ?_|refine grow_same (Mem.le_refl _) ?_|refine ob (Mem.le_refl _) ?_|refine⟨_,Mem.le_refl _,?_⟩|fail)
   refine ob (zd (by first|omega|(dsimp only;omega))) ?_;(conv=>whnf)
   have e2:Q++zO (s.sn.take j2)++[zu xo]++zV [xe,xu,(xm.length:Int)]++zV xm=Q++zO (s.sn.take (j2+1)):=by rw[htk];simp[zfc]
   have e3:(Q++zO (s.sn.take j2)).length+1+2*3+2*xm.length=(Q++zO (s.sn.take (j2+1))).length:=by
    rw[←e2];simp only[List.length_append,List.length_cons,List.length_nil,za0]
   rw[e2,e3] at hN8;refine⟨⟨j2+1,M8,a8,c8⟩,⟨by omega,hN8⟩,by dsimp only;omega,?_⟩;dsimp only;rw[←e3];exact zS
 have hge:mn=j2:=by have:=Zd1 e;dsimp only at this;omega
 subst hge;have hz3:s.sn.take mn=s.sn:=List.take_of_length_le (by omega)
 obtain⟨B,hB⟩:∃ B,B=Q++zO (s.sn.take mn):=⟨_,rfl⟩
 have hBody:B=zgH s:=by rw[hB,hz3,hQ,hP,zgH,hmml,hhn]
 have hBl:B.length≤600000:=by rw[hB,List.length_append];omega
 dsimp only;rw[←hB] at hNc ⊢;refine zR ?_;(conv=>whnf);refine new (fun b8 hb8=>?_);replace hb8:Mc b8=none:=hb8;have hle8:Mc.le (Mc.setCells b8 T.zaK [.slice ac B.length cc]):=Mem.le_setCells hb8
 have hs8:SrcOk (Mc.setCells b8 T.zaK [.slice ac B.length cc]) 1 (some ⟨b8,0,none⟩) 1 [.slice ac B.length cc]:=SrcOk.lit rfl;obtain⟨M8,hM8⟩:∃ M8,M8=Mc.setCells b8 T.zaK [.slice ac B.length cc]:=⟨_,rfl⟩
 rw[←hM8] at hle8 hs8;(conv=>whnf)
 erw [←hM8];have hcc:B.length≤cc:=(newSl_iff.1 hNc).2.2.1
 have hE:Elems M8 1 (some ⟨b8,0,none⟩) 1 (znN M8) [B]:=by
  unfold Elems;refine⟨[[.slice ac B.length cc]],hs8,rfl,rfl,by simp,fun i cs x hi hx=>?_⟩
  match i,hi,hx with
  | 0,hi,hx=>cases hi;cases hx;exact⟨ac,B.length,cc,rfl,hcc,hNc.src.le hle8⟩
  | i+1,hi,hx=>simp at hi
 refine(zrv hE (by decide) (fun l hl=>by simp at hl;subst hl;omega)).mono ?_;rintro v _ ⟨rfl,rfl⟩;have hfl:[B].flatten=B:=by simp
 rw[hfl];have hsr:=zhe B
 refine zR ?_;(conv=>whnf)
 rw[zgM (n:=zeG B) (by omega)];refine(zfW ac B.length cc (zeG B) 4 M8 B (hNc.src.le hle8) (by omega)).mono ?_;rintro v M9 (⟨hbad, -, -⟩|⟨-, a10,c10,rfl,hN10⟩)
 ·exact absurd (zsS (by omega)) hbad
 replace hN10:=(hN10.new.mono hle8).mono hNc.le;refine zR ?_;have hk4:(4:Int).toNat=4:=rfl
 have e4:B.length+(4:Int).toNat=(zaq s).length:=by rw[zaq,←hBody,List.length_append,zcp,hk4]
 rw[e4] at hN10 ⊢;refine⟨a10,c10,rfl,?_⟩;rw[hk4] at hN10;rw[zaq,←hBody] at hN10 ⊢;exact hN10
end
section
variable {M M0 M1 Mc:Mem}
theorem zbS (M:Mem) (b:Nat) (E:TypeId) (l:List Value) (y:Nat):(M.setCells b E l) y=if y=b then some (.cells l.toArray E (0,0)) else M y:=by unfold Mem.setCells Mem.upd;rfl
theorem _root_.Go.Vm.NewSl.cur {b:Nat} {E0 E:TypeId} {l l':List Value} {s n c:Nat} {a:Option Addr} {L:List Value} (h:NewSl (M1.setCells b E0 l) E s a n c L Mc):NewSl (M1.setCells b E0 l') E s a n c L (Mc.setCells b E0 l'):=by
 rw[newSl_iff] at h ⊢;obtain⟨h0,h1,h2,h3⟩:=h;refine⟨fun y o hy=>?_,h1,h2,h3.imp id fun ⟨b1,cs,ha,hb,hh,hr⟩=>?_⟩
 ·rw[zbS] at hy ⊢;split at hy
  ·rename_i e;rw[if_pos e];exact hy
  ·rename_i e;rw[if_neg e];exact h0 y o (by rw[zbS,if_neg e];exact hy)
 ·have hne:b1≠b:=fun e=>by rw[zbS,if_pos e] at hb;cases hb
  rw[zbS,if_neg hne] at hb;refine⟨b1,cs,ha,by rw[zbS,if_neg hne];exact hb,?_,hr⟩;unfold Mem.has at hh ⊢;rw[zbS,if_neg hne];exact hh
theorem zwy {b:Nat} {E0:TypeId} {l l':List Value} (h:(M1.setCells b E0 l).le Mc):(M1.setCells b E0 l').le (Mc.setCells b E0 l'):=(NewSl.cur (l':=l') ((NewSl.none (M1.setCells b E0 l) E0 1).up h)).le
theorem HeldAt.cur {b:Nat} {E0:TypeId} {l l':List Value} {a:Option Addr} {n c:Nat} {ms:List MX} (h:HeldAt (M1.setCells b E0 l) a n c ms Mc):HeldAt (M1.setCells b E0 l') a n c ms (Mc.setCells b E0 l'):=⟨NewSl.cur h.row,fun m hm=>NewSl.cur (h.data m hm),h.apart⟩
theorem MarksAt.cur {b:Nat} {E0:TypeId} {l l':List Value} {a:Option Addr} {n c:Nat} {mk:List MkC} (h:MarksAt (M1.setCells b E0 l) a n c mk Mc):MarksAt (M1.setCells b E0 l') a n c mk (Mc.setCells b E0 l'):=⟨NewSl.cur h.row,fun m hm=>NewSl.cur (h.more m hm)⟩
@[reducible] def zbw (M1:Mem) (b:Nat) (k:Nat):Mem:=M1.setCells b T.zr [.int .i64 k]
theorem zqA {b:Nat} {E:TypeId} {l:List Value} (h:M.has b E l):M.setCells b E l=M:=by
 funext y;rw[zbS];split
 ·rename_i e;rw[e];exact h.symm
 ·rfl
theorem ztD {pre item rest:List UInt8} {size:Int} (hs:item.length=size.toNat):zb6 (pre++(item++rest)) (pre.length:Nat) size=num item 0:=by
 unfold zb6;rw[Int.toNat_natCast,List.drop_left,←hs,List.take_left]
theorem zzD {x:Int} (h:0≤x∧x≤255):(num [zu x] 0:Int)=x:=by
 have:=zeS (x:=x) (by omega);simp[num,this]
theorem zB5 {x:Int} (h:0≤x∧x≤65535):(num (zV [x]) 0:Int)=x:=by rw[zwx,zAR];exact zn5 h
theorem zi6 {α β:Type} (f:α→List β) (l:List α) {i:Nat} (h:i<l.length):l.flatMap f=(l.take i).flatMap f++(f l[i]++(l.drop (i+1)).flatMap f):=by
 have e:l=l.take i++(l[i]::l.drop (i+1)):=by rw[←List.drop_eq_getElem_cons h,List.take_append_drop]
 exact(congrArg (fun l=>l.flatMap f) e).trans (by rw[List.flatMap_append,List.flatMap_cons])
structure CurAt (M1:Mem) (b4 b7 b8:Nat) (a:Option Addr) (c:Nat) (l:List UInt8):Prop where
 body:M1.has b4 T.zaK [.slice a l.length c]
 bad:M1.has b8 T.zhc [.bool false]
 src:∀ k,SrcOk (zbw M1 b7 k) 1 a l.length (l.map zl)
 ne:b4≠b7∧b8≠b7
 big:l.length≤4194304∧l.length≤c
theorem zyc {b4 b7 b8:Nat} {a:Option Addr} {c:Nat} {l:List UInt8} (h:CurAt M1 b4 b7 b8 a c l) {k:Nat} (hle:(zbw M1 b7 k).le Mc) {pre item rest:List UInt8} (hl:l=pre++(item++rest)) (hk:pre.length=k) {size:Int} (hs:1≤size∧size≤4) (hz:item.length=size.toNat) :
  CallsM Tryz.prog F.zfz [.int .i64 size,ptr b4,ptr b7,ptr b8] Mc fun v M'=>v = .int .i64 (num item 0:Nat)∧M'=Mc.setCells b7 T.zr [.int .i64 ((k+item.length:Nat):Int)]∧(zbw M1 b7 (k+item.length)).le M':=by
 refine zud (by simp) ?_;have hb4:Mc.has b4 T.zaK [.slice a l.length c]:=hle _ _ (by unfold zbw;rw[zbS,if_neg h.ne.1];exact h.body)
 have hb8:Mc.has b8 T.zhc [.bool false]:=hle _ _ (by unfold zbw;rw[zbS,if_neg h.ne.2];exact h.bad);have hb7:Mc.has b7 T.zr [.int .i64 k]:=hle _ _ Mem.has_setCells
 have hll:l.length=k+item.length+rest.length:=by rw[hl];simp;omega
 have hlt:=zvW item 0;have hit:item.length≤4:=by omega
 have hpw:(256:Nat) ^ item.length≤256 ^ 4:=Nat.pow_le_pow_right (by decide) hit
 have hlt2:num item 0<4294967296:=by
  have:(256:Nat) ^ 4=4294967296:=by decide
  omega
 have hge:zb5 l.length k size=0:=by unfold zb5;rw[if_neg (by omega),if_neg (by omega)]
 refine zL3 (hb4) (hb7) (hb8) ?_;refine(zfX a l.length c Mc l ((h.src k).le hle) h.big.1 h.big.2 k size hge).mono ?_;have hgn:zb6 l (k:Nat) size=num item 0:=by rw[hl,←hk];exact ztD hz
 rw[hgn];rintro v _ ⟨rfl,rfl⟩;refine zL3 (hb4) (hb7) (hb8) ?_;refine on hb8.cells ?_;(conv=>whnf);refine ob (by simp) ?_;have he8:Mc.setCells b8 T.zhc (ze [.bool false] (0+0+0) [.bool false])=Mc:=zqA hb8
 (conv=>whnf);erw [he8];refine zL (hb7) ?_;(conv=>whnf);refine ob (zd (by have:=h.big.1;omega)) ?_;(conv=>whnf);refine on hb7.cells ?_;(conv=>whnf);refine ob (by simp) ?_;have e1:(k:Int)+size=((k+item.length:Nat):Int):=by omega
 rw[e1];have he7:Mc.setCells b7 T.zr (ze [.int .i64 (k:Int)] (0+0+0) [.int .i64 ((k+item.length:Nat):Int)])=Mc.setCells b7 T.zr [.int .i64 ((k+item.length:Nat):Int)]:=rfl
 (conv=>whnf);rw[znO (n:=((num item 0:Nat):Int)) (by omega)];erw [he7];refine zR ?_;exact⟨rfl,rfl,zwy hle⟩
theorem zj3 {b4 b7 b8:Nat} {a:Option Addr} {c:Nat} {l:List UInt8} (h:CurAt M1 b4 b7 b8 a c l) {k:Nat} (hle:(zbw M1 b7 k).le Mc) {pre rest:List UInt8} {x:Int} (hx:0≤x∧x≤255) (hl:l=pre++([zu x]++rest)) (hk:pre.length=k) :
  CallsM Tryz.prog F.zfz [.int .i64 1,ptr b4,ptr b7,ptr b8] Mc fun v M'=>v = .int .i64 x∧M'=Mc.setCells b7 T.zr [.int .i64 ((k+1:Nat):Int)]∧(zbw M1 b7 (k+1)).le M':=
 (zyc h hle hl hk (by decide) rfl).mono fun v M' ⟨h1,h2,h3⟩=>⟨by rw[h1,zzD hx],h2,h3⟩
theorem zfJ {b4 b7 b8:Nat} {a:Option Addr} {c:Nat} {l:List UInt8} (h:CurAt M1 b4 b7 b8 a c l) {k:Nat} (hle:(zbw M1 b7 k).le Mc) {pre rest:List UInt8} {x:Int} (hx:0≤x∧x≤65535) (hl:l=pre++(zV [x]++rest)) (hk:pre.length=k) :
  CallsM Tryz.prog F.zfz [.int .i64 2,ptr b4,ptr b7,ptr b8] Mc fun v M'=>v = .int .i64 x∧M'=Mc.setCells b7 T.zr [.int .i64 ((k+2:Nat):Int)]∧(zbw M1 b7 (k+2)).le M':=
 (zyc h hle hl hk (by decide) (by rw[za0];rfl)).mono fun v M' ⟨h1,h2,h3⟩=>⟨by rw[h1,zB5 hx],by rw[h2,za0];rfl,by rw[za0] at h3;exact h3⟩
theorem CurAt.b8 {b4 b7 b8:Nat} {a:Option Addr} {c:Nat} {l:List UInt8} (h:CurAt M1 b4 b7 b8 a c l) {k:Nat} (hle:(zbw M1 b7 k).le Mc):Mc.has b8 T.zhc [.bool false]:=hle _ _ (by unfold zbw;rw[zbS,if_neg h.ne.2];exact h.bad)
theorem CurAt.b4 {b4 b7 b8:Nat} {a:Option Addr} {c:Nat} {l:List UInt8} (h:CurAt M1 b4 b7 b8 a c l) {k:Nat} (hle:(zbw M1 b7 k).le Mc):Mc.has b4 T.zaK [.slice a l.length c]:=hle _ _ (by unfold zbw;rw[zbS,if_neg h.ne.1];exact h.body)
theorem CurAt.b7 {b4 b7 b8:Nat} {a:Option Addr} {c:Nat} {l:List UInt8} (_h:CurAt M1 b4 b7 b8 a c l) {k:Nat} (hle:(zbw M1 b7 k).le Mc):Mc.has b7 T.zr [.int .i64 k]:=hle _ _ Mem.has_setCells
structure Got (X M:Mem) (ua:Option Addr) (uc:Nat) (ul:NxT) (ha:Option Addr) (hc:Nat) (ms:List MX) (ma:Option Addr) (mc:Nat) (mk:List MkC):Prop where
 nx:NewSl X T.zbM 2 ua ul.length uc (ul.flatMap zeJ) M
 held:HeldAt X ha ms.length hc ms M
 seen:MarksAt X ma mk.length mc mk M
variable {X:Mem} {ua ha ma:Option Addr} {uc hc mc:Nat} {ul:NxT} {ms:List MX} {mk:List MkC}
theorem Got.up (h:Got X M ua uc ul ha hc ms ma mc mk) {M':Mem} (hle:M.le M'):Got X M' ua uc ul ha hc ms ma mc mk:=⟨h.nx.up hle,h.held.up hle,h.seen.up hle⟩
theorem Got.cur {b:Nat} {E0:TypeId} {l l':List Value} (h:Got (M1.setCells b E0 l) Mc ua uc ul ha hc ms ma mc mk):Got (M1.setCells b E0 l') (Mc.setCells b E0 l') ua uc ul ha hc ms ma mc mk:=⟨NewSl.cur h.nx,h.held.cur,h.seen.cur⟩
theorem _root_.Go.Vm.NewSl.keep' {M9:Mem} {E E':TypeId} {s s':Nat} {a a':Option Addr} {n c n' c':Nat} {L L':List Value} (h:NewSl X E s a n c L M) (hr:NewSl X E' s' a' n' c' L' M) (hk:Mem.keep (z6 a') M M9) (hE:E≠E'):NewSl X E s a n c L M9:=
 h.keep hk (fun y ⟨q,hq,e⟩=>e▸(hr.block hq).1) fun q hq ⟨q',hq',e⟩=>hr.ne h (Ne.symm hE) hq' hq e
theorem Got.addN {M9:Mem} (h:Got X M ua uc ul ha hc ms ma mc mk) {x:Int×Int} {a9:Option Addr} {c9:Nat} (hN9:NewSl X T.zbM 2 a9 (ul.length+1) c9 ((ul++[x]).flatMap zeJ) M9) (hk:Mem.keep (z6 ua) M M9):Got X M9 a9 c9 (ul++[x]) ha hc ms ma mc mk:=
 ⟨by simpa using hN9,⟨h.held.row.keep' h.nx hk (by decide),fun m hm=>(h.held.data m hm).keep' h.nx hk (by decide),h.held.apart⟩,⟨h.seen.row.keep' h.nx hk (by decide),fun m hm=>(h.seen.more m hm).keep' h.nx hk (by decide)⟩⟩
theorem Got.addH {M9:Mem} (h:Got X M ua uc ul ha hc ms ma mc mk) {x:MX} (hnew:NewSl X T.zn 1 x.a x.p.length x.c (x.p.map zl) M) (hap:∀ m∈ms,∀ z,z6 m.a z→¬z6 x.a z) {a9:Option Addr} {c9:Nat} (hN9:NewSl X T.zdz 5 a9 (ms.length+1) c9 ((ms++[x]).flatMap zli) M9) (hk:Mem.keep (z6 ha) M M9):Got X M9 ua uc ul a9 c9 (ms++[x]) ma mc mk:=by
 refine⟨h.nx.keep' h.held.row hk (by decide),⟨by simpa using hN9,fun m hm=>?_,?_⟩,⟨h.seen.row.keep' h.held.row hk (by decide),fun m hm=>(h.seen.more m hm).keep' h.held.row hk (by decide)⟩⟩
 ·rcases List.mem_append.1 hm with hm|hm
  ·exact(h.held.data m hm).keep' h.held.row hk (by decide)
  ·simp only[List.mem_singleton] at hm;subst hm;exact hnew.keep' h.held.row hk (by decide)
 ·rw[List.pairwise_append];refine⟨h.held.apart,by simp,fun m hm y hy z hz=>?_⟩;simp only[List.mem_singleton] at hy;subst hy;exact hap m hm z hz
theorem Got.addM {M9:Mem} (h:Got X M ua uc ul ha hc ms ma mc mk) {x:MkC} (hnew:NewSl X T.zr 1 x.a x.more.length x.c (x.more.map zaa) M) {a9:Option Addr} {c9:Nat} (hN9:NewSl X T.za2 4 a9 (mk.length+1) c9 ((mk++[x]).flatMap zhF) M9) (hk:Mem.keep (z6 ma) M M9):Got X M9 ua uc ul ha hc ms a9 c9 (mk++[x]):=by
 refine⟨h.nx.keep' h.seen.row hk (by decide),⟨h.held.row.keep' h.seen.row hk (by decide),fun m hm=>(h.held.data m hm).keep' h.seen.row hk (by decide),h.held.apart⟩,⟨by simpa using hN9,fun m hm=>?_⟩⟩;rcases List.mem_append.1 hm with hm|hm
 ·exact(h.seen.more m hm).keep' h.seen.row hk (by decide)
 ·simp only[List.mem_singleton] at hm;subst hm;exact hnew.keep' h.seen.row hk (by decide)
theorem zwz {i:IdT} {p:List UInt8} (h:zdm i p.length=0):zbb (zZ i.o i.d i.e i.c++p)=0∧zbu (zZ i.o i.d i.e i.c++p)=⟨i,p⟩:=by
 obtain⟨h1,h2,h3⟩:=za8 h;obtain⟨h4,h5⟩:=zrR (i:=i) h1;have ht:(zZ i.o i.d i.e i.c++p).take 6=zZ i.o i.d i.e i.c:=by rw[List.take_append_of_le_length (by omega),List.take_of_length_le (by omega)]
 have hd:(zZ i.o i.d i.e i.c++p).drop 6=p:=by rw[←h5,List.drop_left]
 have he:zbb (zZ i.o i.d i.e i.c++p)=0:=by
  unfold zbb;rw[ht,List.length_append,h5,if_neg (by omega),if_neg (by rw[(zf6 h1).1];simp),if_neg (by omega)]
 refine⟨he,?_⟩;unfold zbu;rw[if_pos he,ht,hd,h4]
end
end Go.Proofs.YtpdkkbpkplhdpaaGreat
