/- Part of this proof;laid by program. -/
import Derived.Test.YtpnhjkiligohnaaGreatDoorJ36
set_option linter.unusedVariables false
set_option linter.unusedSimpArgs false
namespace Go.Proofs.YtpnhjkiligohnaaGreatDoor
open Go Go.Vm
attribute [local irreducible] Brn Ob Grow CallsM inR zay zav Mem.row Mem.cells Mem.setCells Mem.upd Go.Vm.Own zaU zbF zbE zaV New SrcOk zah NewSl Mem.textAt Mem.mapAt Mem.iterAt zak kfind Wr NewEls Elems
set_option maxRecDepth 10000
section
variable {M M':Mem}
theorem zL8 (nb:List Nat):nb.map ztB=(nb.map fun (k:Nat)=>(k:Int)).map zbw:=by rw[List.map_map];rfl
theorem zDs {self:Nat}:∀ {nb:List Nat} {last:Int},nb.Pairwise (· < ·)→(∀ k∈nb,k<64∧k≠self)→(∀ k∈nb,last<(k:Int))→ztE (self:Nat) last (nb.map fun (k:Nat)=>(k:Int))=true
 | [],_,_,_,_=>rfl
 | k::r,last,hs,hr,hl=>by
  obtain⟨h1,h2⟩:=List.pairwise_cons.1 hs;obtain⟨h3,h4⟩:=hr k (by simp);have h5:=hl k (by simp)
  rw[List.map_cons,ztE,zDs h2 (fun x hx=>hr x (by simp[hx])) (fun x hx=>by have:=h1 x hx;omega)];simp[zft];omega
@[reducible] def zyj (S:StI):List Value:=[.int .i64 S.qh,.int .i64 S.qb,.int .i64 S.qg,.int .i64 S.disk,.int .i64 S.seg,.int .i64 S.win,.int .i64 S.timer,.int .i64 S.tries,.int .i64 S.wait,.int .i64 S.delay]
theorem zJR {S:StI} (hS:znm S) {A:Mem} {d:Nat} (hd:zyi A d) (hA:A.le M) {self:Nat} {nb:List Nat} (hself:self<64) (hs:nb.Pairwise (· < ·)) (hr:∀ k∈nb,k<64∧k≠self) {a:Option Addr} {c0:Nat} (hrow:SrcOk M 1 a nb.length (nb.map ztB)) (hap:∀ q,a=some q→A q.block=none) :
  CallsM Tryz.prog F.zhp [.int .i64 (self:Nat),.slice a nb.length c0,ptr d,zAF S] M fun v M'=>∃ x c sm t dk bs C,v = .tuple #[ptr x,.int .i64 0]∧CusB C c∧C.le M'∧(∀ y E l,C.has y E l→bhO.noT E=false)∧M'.has x T.zae (zc6 (self:Nat) S c sm t dk)∧(A x=none→M x=none)∧MapAt zbw zam M' sm (zbU nb bs)∧bs.length=nb.length∧bs.Nodup∧(∀ b∈bs,SideB M' b) ∧
   (∀ b∈bs,A b=none→M b=none)∧∀ y o,A y=none→M y=some o→M' y=some o∧C y=none:=by
 have hfew:nb.length≤64:=by
  have hnd:nb.Nodup:=hs.imp fun {a b} h e=>by omega
  have:=hnd.length_le_of_subset (l₂:=List.range 64) fun k hk=>List.mem_range.2 (hr k hk).1
  simpa using this
 refine zCj (by simp) ?_;refine zR ?_;refine(zNM (self:Nat) 64 a nb.length c0 (nb.map fun (k:Nat)=>(k:Int)) (by rw[←zL8];exact hrow) (by omega)).mono ?_
 have hE:zob (self:Nat) (nb.map fun (k:Nat)=>(k:Int)) 64=0:=by
  unfold zob;rw[zDs hs hr (fun k _=>by omega)];have:zft (self:Nat)=true:=by simp[zft];omega
  simp[this]
 rintro v M1 (⟨h0, -⟩|⟨-, pt,b1,b2,a1,c1,rfl, -, -, -, -, hle1, -⟩)
 ·exact absurd hE h0
 refine zR ?_;refine(zzG hS).mono ?_;rintro v M2 ⟨rfl,hle2⟩;have hl2:=Mem.le_trans hle1 hle2
 refine zR ?_;refine(zJP hS hd (Mem.le_trans hA hl2) (by omega)).mono ?_;rintro v M3 ⟨c,C0,rfl,hC0,hCle0,hfr3⟩;obtain⟨C,hCC,hC,hCt⟩:=hC0.tight;have hCle:=Mem.le_trans hCC hCle0
 have hfr:∀ y o,A y=none→M y=some o→M3 y=some o∧C y=none:=fun y o hy ho=>by
  obtain⟨h1,h2⟩:=hfr3 y o hy (hl2 _ _ ho);refine⟨h1,?_⟩;cases hc:C y with
  | none=>rfl
  | some o'=>rw[hCC _ _ hc] at h2;cases h2
 have hrow3:SrcOk M3 1 a nb.length (nb.map ztB):=(hrow.minus (S:=fun y=>A y≠none) (fun q hq h=>h (hap q hq))).le fun y o ho=>by
  unfold Mem.minus at ho;split at ho
  ·cases ho
  ·rename_i h;exact(hfr y o (by simpa using h) ho).1
 refine zR ?_;refine(zL6 hS.wait).mono ?_;rintro v M4 ⟨⟨dk,rfl⟩,hle4⟩;refine zR ?_;refine new fun sm hsm=>?_
 replace hsm:M4 sm=none:=hsm;obtain⟨M5,hM5⟩:∃ M5,M5=M4.upd sm (.map #[] 0):=⟨_,rfl⟩
 have hle5:M4.le M5:=hM5▸Mem.le_upd hsm;have hmap5:MapAt zbw zam M5 sm []:=hM5▸MapAt.new M4 sm
 rw[←hM5];have hl5:=Mem.le_trans hle4 hle5
 have hc5:CusB M5 c:=hC.le (Mem.le_trans hCle hl5);refine zR ?_;refine hc5.state.mono ?_;rintro v M6 ⟨⟨me,rfl⟩,hle6⟩;(conv=>whnf);refine obr (zm (by decide)) ?_;(conv=>whnf);refine ob (by decide) ?_;refine zR ?_;have hmap6:MapAt zbw zam M6 sm []:=hmap5.mono fun o ho=>hle6 _ _ ho
 have hl6:=Mem.le_trans hl5 hle6;have hrow6:=hrow3.le hl6
 (conv=>whnf)
 refine zaL (σ:=Nat×Mem×List Nat×List Nat) [70] (fun y=>[(70,.int .i64 (y.1:Nat))]) (fun _=>[BE.live T.zen ((zyj S).map SC.v),BE.live T.zae ((zc6 (self:Nat) S c sm (ptr pt) (ptr dk)).map SC.v)]) (fun y=>y.2.1)
  (fun|⟨i,Mc,bs,es⟩=>i≤nb.length∧M4.le Mc∧Mem.keep (fun y=>y=sm) M6 Mc∧MapAt zbw zam Mc sm (zbU (nb.take i) bs)∧bs.length=i∧es.length=i∧bs.Nodup∧es.Nodup∧(∀ (j b e:Nat),bs[j]? = some b→es[j]? = some e→SideN Mc b e)∧(∀ b,b∈bs∨b∈es→M6 b=none)) (fun y=>nb.length - y.1) ⟨0,M6,[],[]⟩ ⟨by omega,Mem.le_trans hle5 hle6,Mem.keep_refl _ _,by simpa[zbU] using hmap6,rfl,rfl,by simp,by simp,by simp,by simp⟩ zS ?_
 rintro ⟨i,Mc,bs,es⟩ ⟨hi,h4c,hkc,hmc,hlb,hle,hnb,hne,hsd,hbf⟩;(conv=>whnf);refine brn (fun g=>?_) (fun g=>?_)
 ·have g':i<nb.length:=by have:=Zd0 g;dsimp only at this;omega
  obtain⟨hlt,b3,o3,rfl,hr3⟩:=(hmap6.src hrow6 hkc).at (i:=i) g';have hkj:nb[i]? = some nb[i]:=List.getElem?_eq_getElem g'
  obtain⟨k,hkk⟩:∃ k,k=nb[i]:=⟨_,rfl⟩
  rw[←hkk] at hr3 hkj;(conv=>whnf);refine ob (by dsimp only;omega) ?_;(conv=>whnf);refine on hr3 ?_;refine zR ?_;refine(zL7 hS).mono ?_;rintro v M7 ⟨e,rfl,hle7,he7,hefr⟩;refine zR ?_;refine hdlc_new.mono ?_;rintro v M8 ⟨⟨dh,rfl⟩,hle8⟩;have hmc8:MapAt zbw zam M8 sm (zbU (nb.take i) bs):=hmc.mono fun o ho=>hle8 _ _ (hle7 _ _ ho)
  refine zT (hle8) ?_;(conv=>whnf);refine new fun b hb=>?_
  replace hb:M8 b=none:=hb;obtain⟨M9,hM9⟩:∃ M9,M9=M8.setCells b T.zQ [ptr e,ptr dh,.int .i64 0,.slice none 0 0]:=⟨_,rfl⟩
  have hle9:M8.le M9:=hM9▸Mem.le_setCells hb;have hb9:M9.has b T.zQ [ptr e,ptr dh,.int .i64 0,.slice none 0 0]:=hM9▸Mem.has_setCells
  have hmc9:MapAt zbw zam M9 sm (zbU (nb.take i) bs):=hmc8.mono fun o ho=>hle9 _ _ ho
  (conv=>whnf);erw [←hM9];(conv=>whnf)
  refine hmc9.put zzo (k:Int) b fun q f hm=>?_
  obtain⟨M10,hM10⟩:∃ M10,M10=M9.upd sm (mput q f (zbw (k:Int)) (zam b)):=⟨_,rfl⟩
  have hm10:=hm M9;have hk10:Mem.keep (fun y=>y=sm) M9 M10:=hM10▸Mem.keep_upd M9 _ rfl
  have hle79:=Mem.le_trans hle7 (Mem.le_trans hle8 hle9);rw[←hM10] at hm10;(conv=>whnf)
  erw [←hM10];refine zR ?_;refine obr (zm (by first|omega|(dsimp only;omega))) ?_;(conv=>whnf)
  have hti:nb.take (i+1)=nb.take i++[k]:=by rw[List.take_add_one,hkj];rfl
  have hz:zbU (nb.take (i+1)) (bs++[b])=zbU (nb.take i) bs++[((k:Int),b)]:=by
   unfold zbU;rw[hti,List.map_append,List.zip_append (by simp[hlb];omega)];rfl
  have hno:zL (zbU (nb.take i) bs) (k:Int)=none:=by
   rw[aget_none,ztD (by simp[hlb];omega)];intro hmem;obtain⟨k',hk',e⟩:=List.mem_map.1 hmem;have:k'=k:=by omega
   subst this;exact zhA (hs.imp fun {a b} h e=>by omega) (Nat.le_refl i) hkj hk'
  have hbc:Mc b=none:=by
   cases h:Mc b with
   | none=>rfl
   | some o=>rw[hle8 _ _ (hle7 _ _ h)] at hb;cases hb
  refine⟨⟨i+1,M10,bs++[b],es++[e]⟩,⟨by omega,?_,?_,?_,by simp[hlb],by simp[hle],?_,?_,?_,?_⟩,by dsimp only;omega,zS⟩
  ·exact fun y o ho=>hk10 y o (fun h=>by subst h;rw[hsm] at ho;cases ho) (hle79 _ _ (h4c _ _ ho))
  ·exact fun y o hy ho=>hk10 y o hy (hle79 _ _ (hkc y o hy ho))
  ·rw[hz];unfold zoM at hm10;rw[hno] at hm10;exact hm10
  ·rw[List.nodup_append];refine⟨hnb,by simp,fun y hy z hz e=>?_⟩;simp only[List.mem_singleton] at hz;subst hz;subst e;obtain⟨j,hj⟩:=List.mem_iff_getElem?.1 hy;have hjl:=(List.getElem?_eq_some_iff.1 hj).1
   obtain⟨d1,h1, -⟩:=hsd j y (es[j]'(by omega)) hj (List.getElem?_eq_getElem _);unfold Mem.has at h1;rw[hbc] at h1;cases h1
  ·rw[List.nodup_append];refine⟨hne,by simp,fun y hy z hz e=>?_⟩;simp only[List.mem_singleton] at hz;subst hz;subst e;obtain⟨j,hj⟩:=List.mem_iff_getElem?.1 hy;have hjl:=(List.getElem?_eq_some_iff.1 hj).1
   obtain⟨d1, -, W,Tm,R,sp,rp,w,c,sp',h1, -⟩:=hsd j (bs[j]'(by omega)) y (List.getElem?_eq_getElem _) hj;unfold Mem.has at h1;dsimp only at hefr;rw[hefr] at h1;cases h1
  ·have key:∀ {b' e':Nat},SideN M9 b' e'→SideN M10 b' e':=fun {b' e'} ⟨d1,h1,W,Tm,R,sp,rp,w,c,sp',h2,h3⟩=>⟨d1,hk10 _ _ (hmc9.nb h1) h1,W,Tm,R,sp,rp,w,c,sp',hk10 _ _ (hmc9.nb h2) h2,hk10 _ _ (hmc9.nb h3) h3⟩
   intro j b' e' hb' he';refine key ?_;rcases Nat.lt_or_ge j i with hji|hji
   ·rw[List.getElem?_append_left (by omega)] at hb' he';exact(hsd j b' e' hb' he').le hle79
   ·rw[List.getElem?_append_right (by omega)] at hb' he'
    have:j - bs.length=0:=by
     have:=(List.getElem?_eq_some_iff.1 hb').1;simp at this;omega
    rw[this] at hb';rw[show j - es.length=0 by omega] at he';simp at hb' he';subst hb' he';exact⟨dh,hb9,(he7.le hle8).le hle9⟩
  ·have fr:∀ {b':Nat},Mc b'=none→M6 b'=none:=fun {b'} hbc=>by
    cases h6:M6 b' with
    | none=>rfl
    | some o=>
     by_cases hy:b'=sm
     ·obtain⟨l,cl,h7, -⟩:=hmc;rw[←hy,hbc] at h7;cases h7
     ·rw[hkc _ _ hy h6] at hbc;cases hbc
   intro b' hb';simp only[List.mem_append,List.mem_singleton] at hb';rcases hb' with (h|rfl)|(h|rfl)
   ·exact hbf b' (.inl h)
   ·exact fr hbc
   ·exact hbf b' (.inr h)
   ·exact fr hefr
 ·have g':i=nb.length:=by have:=Zd1 g;dsimp only at this;omega
  subst g';rw[List.take_length] at hmc;(conv=>whnf);refine new fun x hx=>?_
  replace hx:Mc x=none:=hx;obtain⟨M7,hM7⟩:∃ M7,M7=Mc.setCells x T.zae (zc6 (self:Nat) S c sm (ptr pt) (ptr dk)):=⟨_,rfl⟩
  have hle7:Mc.le M7:=hM7▸Mem.le_setCells hx;have hx7:M7.has x T.zae (zc6 (self:Nat) S c sm (ptr pt) (ptr dk)):=hM7▸Mem.has_setCells
  (conv=>whnf);erw [←hM7];refine zR ?_;have hmc7:MapAt zbw zam M7 sm (zbU nb bs):=hmc.mono fun o ho=>hle7 _ _ ho
  have hCl7:C.le M7:=Mem.le_trans hCle (Mem.le_trans hle4 (Mem.le_trans h4c hle7));refine(zHv (bs:=bs) (es:=es) hx7 ⟨hmc7,hs,hlb,hle,hfew,hnb,hne,fun j b e hb he=>(hsd j b e hb he).le hle7⟩ (hC.le hCl7)).mono ?_;rintro v M8 ⟨rfl,hk8,hB8⟩;refine zR ?_;(conv=>whnf)
  have all:∀ {y:Nat} {o:Go.Obj},A y=none→M y=some o→Mc y=some o:=fun {y o} hy ho=>h4c _ _ (hle4 _ _ (hfr y o hy ho).1)
  have old:∀ y,A y=none→Mc y=none→M y=none:=fun y hy hn=>by
   cases ho:M y with
   | none=>rfl
   | some o=>rw[all hy ho] at hn;cases hn
  have hbes:∀ y,(y∈bs∨y∈es)→(∃ l,M7.has y T.zQ l)∨∃ l,M7.has y T.zbd l:=fun y hy=>(⟨hmc7,hs,hlb,hle,hfew,hnb,hne,fun j b e hb he=>(hsd j b e hb he).le hle7⟩:SidesN M7 sm nb bs es).ty hy
  refine⟨x,c,sm,_,_,bs,C,rfl,hC,fun y o ho=>hk8 y o (fun hy=>?_) (hCl7 y o ho),hCt,hk8 _ _ (fun hy=>?_) hx7,fun h=>old x h hx,hmc7.mono fun o ho=>hk8 sm o (fun hy=>?_) ho,hlb,hnb,hB8,fun b hb h=>?_,fun y o hy ho=>⟨hk8 y o (fun hy'=>?_) (hle7 _ _ (all hy ho)),(hfr y o hy ho).2⟩⟩
  ·have h7:=hCl7 y o ho;rcases hbes y hy with ⟨l,hl⟩|⟨l,hl⟩
   ·unfold Mem.has at hl;rw[hl] at h7;cases h7;have:=hCt y T.zQ l ho
    revert this;rw[show Rn.T.noT T.zQ bhO=true by kernel_rfl];decide
   ·unfold Mem.has at hl;rw[hl] at h7;cases h7;have:=hCt y T.zbd l ho
    revert this;rw[show Rn.T.noT T.zbd bhO=true by kernel_rfl];decide
  ·rcases hbes x hy with ⟨l,hl⟩|⟨l,hl⟩
   ·have:=(hl.inj hx7).1;revert this;decide
   ·have:=(hl.inj hx7).1;revert this;decide
  ·rcases hbes sm hy with ⟨l,hl⟩|⟨l,hl⟩<;>exact hmc7.nb hl rfl
  ·have h6:=hbf b (.inl hb);cases ho:M b with
   | none=>rfl
   | some o=>rw[hle6 _ _ (hle5 _ _ (hle4 _ _ (hfr b o h ho).1))] at h6;cases h6
  ·have h6:=hbf y hy';rw[hle6 _ _ (hle5 _ _ (hle4 _ _ (hfr y o hy ho).1))] at h6;cases h6
end
section
variable {M M':Mem}
def UpB (P:Mem) (x:Nat):Prop:=∃ self S c sm t d,P.has x T.zae (zc6 self S c sm t d)∧CusB P c
theorem zJS {p b r:Nat} {S:StI} {n:Nat} {L:List (Nat×Nat)} {ns:List Value} {ds:List Nat} {mb:Nat} {lm:List ((Nat×Nat)×Nat)} (hQ:zAG M p b r S n L ns ds mb lm) (hL:LinksOk n L) (hS:znm S) {i d:Nat} (hi:i<n) (hdi:ds[i]? = some d)
  {A:Mem} (hd:zyi A d) (hA:A.le M) (hl:∀ k y,zL lm (i,k)=some y→M.has y T.zN (zgq S.delay)) (h1:A p=none) (h2:A b=none) (h3:A r=none) (h4:A mb=none) (h5:∀ w y,zL lm w=some y→A y=none) :
  CallsM Tryz.prog F.zb0 [ptr p,.int .i64 (i:Nat)] M fun v M'=>v = .int .i64 0∧∃ x P,UpB P x∧P.le M'∧(∀ y,A y=none→M y≠none→P y=none)∧M'.has b T.zt (ns.set i (ptr x))∧∀ y o,A y=none→y≠b→(∀ k,zL lm (i,k)≠some y)→M y=some o→M' y=some o:=by
 obtain⟨lk,cd,cs,hp,hb,hr,hcs⟩:=hQ.cells;have hlen:=hQ.len
 have hdl:=hQ.dlen
 have hcd:cs[i]? = some (zam d):=by
  have:(cs.take n)[i]? = some (zam d):=by rw[hcs,List.getElem?_map,hdi];rfl
  rw[List.getElem?_take] at this
  rwa [if_pos hi] at this
 refine zul (by simp) ?_;refine zR ?_;refine on (hp.c1 rfl) ?_;refine zR ?_;refine ob (by omega) ?_;refine zR ?_;refine on (hr.c1 (o:=0+i*1) (by simpa using hcd)) ?_;refine zR ?_;refine on (hp.row (by simp)) ?_;refine zR ?_;refine(zB5 hp hQ.map hQ.keys hL.num.2 i).mono ?_;rintro v M1 ⟨q1,c1,rfl,hN1⟩;have hle1:=hN1.le
 refine zT (hle1) ?_;refine(zJR hS hd (Mem.le_trans hA hle1) (self:=i) (nb:=zaK L i n) (by have:=hL.num;omega) (zB4 L i n) (fun k hk=>?_) hN1.src (fun q hq=>?_)).mono ?_
 ·obtain⟨hk1,hk2⟩:=nearL_mem.1 hk;have:=hL.num
  have:=(hL.way hk2).1;exact⟨by omega,fun e=>this e.symm⟩
 ·have:=(hN1.block hq).1;cases h:A q.block with
  | none=>rfl
  | some o=>rw[hA _ _ h] at this;cases this
 rintro v M2 ⟨x,c,sm,t,dk,bs,C,rfl,hC,hCl,hCt,hx,hxn,hsm,hlb,hbn,hBs,hbfr,hfr⟩;have all:∀ {y:Nat} {o:Go.Obj},A y=none→M y=some o→M2 y=some o:=fun {y o} hy ho=>(hfr y o hy (hle1 _ _ ho)).1
 have hp2:M2.has p T.zad _:=all h1 hp;have hb2:M2.has b T.zt ns:=all h2 hb
 refine zR ?_;refine on (hp2.c1 rfl) ?_;refine zR ?_;refine ob (by omega) ?_;refine zR ?_;refine on hb2.cells ?_;(conv=>whnf);refine ob (by simp[hlen];omega) ?_
 have hspl:splice ns (0+(i:Int).toNat*1) [ptr x]=ns.set i (ptr x):=by
  rw[zDI _ _ _ (by simp[hlen];omega)];simp
 obtain⟨M3,hM3⟩:∃ M3,M3=M2.setCells b T.zt (ns.set i (ptr x)):=⟨_,rfl⟩
 have hk3:Mem.keep (fun y=>y=b) M2 M3:=hM3▸zfl _ _ _ _;have hb3:M3.has b T.zt (ns.set i (ptr x)):=hM3▸Mem.has_setCells
 (conv=>whnf)
 try rw[hspl]
 try erw [hspl]
 try erw [←hM3]
 refine zR ?_;have no:∀ {y:Nat} {o:Go.Obj},A y=none→M y=some o→C y=none:=fun {y o} hy ho=>(hfr y o hy (hle1 _ _ ho)).2
 have up3:∀ {y:Nat} {E:TypeId} {l:List Value},M2.has y E l→E≠T.zt→M3.has y E l:=fun {y E l} hy hE=>hk3 _ _ (fun h=>by subst h;exact hE (hy.inj hb2).1) hy
 have hm2:MapAt kvL zam M2 mb lm:=hQ.map.mono fun o ho=>all h4 ho
 have hm3:MapAt kvL zam M3 mb lm:=hm2.mono fun o ho=>hk3 mb o (fun h=>hm2.nb hb2 h.symm) ho
 have hs3:MapAt zbw zam M3 sm (zbU (zaK L i n) bs):=hsm.mono fun o ho=>hk3 sm o (fun h=>hsm.nb hb2 h.symm) ho
 have hC3:C.le M3:=fun y o ho=>hk3 y o (fun h=>by subst h;rw[no h2 hb] at ho;cases ho) (hCl y o ho)
 have hQ3:zAG M3 p b r S n L (ns.set i (ptr x)) ds mb lm:=⟨⟨lk,cd,cs,up3 hp2 (by decide),hb3,up3 (show M2.has r T.zbs cs from all h3 hr) (by decide),hcs⟩,by simp[hlen],hdl,hm3,hQ.keys,hQ.nd⟩
 refine(zFY (bs:=bs) hQ3 hL.num.2 (i:=i) (x:=x) (by rw[List.getElem?_set_self (by omega)]) ⟨hS.delay.1,by have:=hS.delay.2;omega⟩ (up3 hx (by decide)) hs3 hlb hbn (fun b' hb'=>(hBs b' hb').keep hk3 (fun h=>?_) fun y l hy h=>?_) (hC.le hC3) fun k y hky=>?_).mono ?_
 ·obtain⟨e,d,q,n,c,L,h6, -⟩:=hBs b' hb';rw[h] at h6;have:=(h6.inj hb2).1;revert this;decide
 ·rw[h] at hy;have:=(hy.inj hb2).1;revert this;decide
 ·exact up3 (show M2.has y T.zN (zgq S.delay) from all (h5 _ _ hky) (hl k y hky)) (by decide)
 rintro v M4 ⟨rfl,hk4,hx4⟩;refine zR ?_;(conv=>whnf)
 have tyb:∀ b'∈bs,∃ l,M3.has b' T.zQ l:=fun b' hb'=>by
  obtain⟨e,d,q,n,c,L,h6, -⟩:=hBs b' hb';exact⟨_,up3 h6 (by decide)⟩
 have hx3:=up3 hx (by decide);refine⟨rfl,x,fun y=>if y=x then M4 x else C y,⟨((i:Nat):Int),S,c,sm,t,dk,?_,hC.le fun y o ho=>?_⟩,fun y o ho=>?_,fun y hy hM=>?_,hk4 b _ (fun h=>?_) hb3,fun y o hy hyb hyl ho=>hk4 y o (fun h=>?_) (hk3 y o hyb (all hy ho))⟩
 ·show (if x=x then M4 x else C x)=_;rw[if_pos rfl];exact hx4
 ·by_cases hyx:y=x
  ·subst hyx;simp only[if_true];have:=hCl _ _ ho
   unfold Mem.has at hx hx4;rw[hx] at this;cases this;exact hx4
  ·simp only[if_neg hyx];exact ho
 ·by_cases hyx:y=x
  ·subst hyx;simpa using ho
  ·simp only[if_neg hyx] at ho;refine hk4 y o (fun h=>?_) (hC3 y o ho);rcases h with h|h|⟨k,h⟩
   ·exact hyx h
   ·obtain⟨l,h6⟩:=tyb y h;have h7:=hC3 y o ho
    unfold Mem.has at h6;rw[h6] at h7;cases h7;have:=hCt y T.zQ l ho
    revert this;rw[show Rn.T.noT T.zQ bhO=true by kernel_rfl];decide
   ·have:=no (h5 _ _ h) (hl k y h);rw[this] at ho;cases ho
 ·cases hMy:M y with
  | none=>exact absurd hMy hM
  | some o=>
   by_cases hyx:y=x
   ·subst hyx;have:=hxn hy
    rw[hle1 _ _ hMy] at this;cases this
   ·simp only[if_neg hyx];exact no hy hMy
 ·rcases h with h|h|⟨k,h⟩
  ·rw[h] at hb3;have:=(hb3.inj hx3).1;revert this;decide
  ·obtain⟨l,h6⟩:=tyb b h;have:=(h6.inj hb3).1;revert this;decide
  ·have h6:M3.has b T.zN (zgq S.delay):=up3 (show M2.has b T.zN (zgq S.delay) from all (h5 _ _ h) (hl k b h)) (by decide);have:=(h6.inj hb3).1;revert this;decide
 ·rcases h with h|h|⟨k,h⟩
  ·subst h;have:=hxn hy
   rw[hle1 _ _ ho] at this;cases this
  ·have:=hbfr y h hy;rw[hle1 _ _ ho] at this;cases this
  ·exact hyl k h
end
end Go.Proofs.YtpnhjkiligohnaaGreatDoor
