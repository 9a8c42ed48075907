/- Part of this proof;laid by program. -/
import Derived.Test.YtpnhjkiligohnaaGreatDoorJ35
import Derived.Test.YtpnhjkiligohnaaGreatDoorJ8
import Derived.Test.YtpnhjkiligohnaaGreatDoorJ9
set_option linter.unusedVariables false
set_option linter.unusedSimpArgs false
namespace Go.Proofs.YtpnhjkiligohnaaGreatDoor
open Go Go.Vm
attribute [local irreducible] Brn Ob Grow CallsM inR zay zav Mem.row Mem.cells Mem.setCells Mem.upd Go.Vm.Own zaU zbF zbE zaV New SrcOk zah NewSl Mem.textAt Mem.mapAt Mem.iterAt zak kfind Wr NewEls Elems
set_option maxRecDepth 10000
open Rn Rn.Q
variable {M M':Mem}
set_option maxRecDepth 100000
structure znm (S:StI):Prop where
 qh:0≤S.qh∧S.qh≤255
 qb:0≤S.qb∧S.qb≤2040
 qg:0≤S.qg∧S.qg≤255
 disk:256≤S.disk∧S.disk≤65536
 seg:16≤S.seg∧S.seg≤271
 win:1≤S.win∧S.win≤63
 timer:1≤S.timer∧S.timer≤8
 tries:1≤S.tries∧S.tries≤4
 wait:1≤S.wait∧S.wait≤8
 delay:0≤S.delay∧S.delay≤3
@[reducible] def zAF (S:StI):Value := .agg #[.int .i64 S.qh,.int .i64 S.qb,.int .i64 S.qg,.int .i64 S.disk,.int .i64 S.seg,.int .i64 S.win,.int .i64 S.timer,.int .i64 S.tries,.int .i64 S.wait,.int .i64 S.delay]
theorem zK3 {σ:List E} {k o d n:Nat} {v:Value} (h:CR σ (.g k o d n) v):∃ q c,v = .slice q n c:=by
 simp only[CR,C.val,Option.bind_eq_some_iff] at h;obtain⟨e, -, h⟩:=h;split at h
 ·split at h
  ·rename_i hz;cases h;exact⟨none,0,by rw[hz.1]⟩
  ·cases h
 ·split at h
  ·cases h;exact⟨_,_,rfl⟩
  ·cases h
theorem zlW {σ:List E} {x:Nat} {v:Value} (h:CR σ (i x) v):v = .int .i64 (x:Nat):=by
 have h:some (Value.int .i64 (.ofNat x))=some v:=h;cases h;rfl
theorem tp2 {σ:List E} {a:Nat} {x:Nat} {u:Value} (h:OVR σ (.tp [.c (.p a 0),.c (i x)]) u):∃ e,σ[a]? = some e∧u = .tuple #[ptr e.addr,.int .i64 (x:Nat)]:=by
 obtain⟨vs,h1,rfl⟩:=h
 match vs,h1 with
 | [v0,v1],⟨h2,h3,_⟩=>
  obtain⟨e,h4,rfl⟩:=ztv h2;rw[zlW h3];exact⟨e,h4,rfl⟩
theorem zzG {S:StI} (h:znm S):CallsM Tryz.prog F.zce [zAF S] M fun v M'=>v = .int .i64 0∧M.le M':=by
 refine(zlV zgj (σ:=[nmE S.qh,nmE S.qb,nmE S.qg,nmE S.disk,nmE S.seg,nmE S.win,nmE S.timer,nmE S.tries,nmE S.wait,nmE S.delay]) zNz rfl (by kernel_rfl) (show All2 (WR _) bwC [zAF S] from ⟨⟨_,
  show All2 (CR _) [.xx 0 0 0 255,.xx 1 0 0 2040,.xx 2 0 0 255,.xx 3 0 256 65536,.xx 4 0 16 271,.xx 5 0 1 63,.xx 6 0 1 8,.xx 7 0 1 4,.xx 8 0 1 8,.xx 9 0 0 3] [_,_,_,_,_,_,_,_,_,_] from
  ⟨zcq rfl h.qh.1 h.qh.2,zcq rfl h.qb.1 h.qb.2,zcq rfl h.qg.1 h.qg.2,zcq rfl h.disk.1 h.disk.2,zcq rfl h.seg.1 h.seg.2,zcq rfl h.win.1 h.win.2,zcq rfl h.timer.1 h.timer.2,zcq rfl h.tries.1 h.tries.2,zcq rfl h.wait.1 h.wait.2,zcq rfl h.delay.1 h.delay.2,trivial⟩,rfl⟩,trivial⟩)).mono ?_
 rintro u M' ⟨τ,A', -, h1, -, -, h2, -⟩;exact⟨zlW h1,h2⟩
def zyi (A:Mem) (d:Nat):Prop:=MObj 3 bhD 2 A d
def CusB (M:Mem) (c:Nat):Prop:=MObj 49 bhO 12 M c
theorem CusB.le {c:Nat} (h:CusB M c) (hle:M.le M'):CusB M' c:=MObj.le h hle
theorem zJO {S:StI} (h:znm S):CallsM Tryz.prog F.zho [.int .i64 S.disk] M fun v M'=>∃ d A,v = .tuple #[ptr d,.int .i64 0]∧zyi A d∧A.le M'∧M.le M'∧∀ y,M y≠none→A y=none:=by
 refine(zlV zgj (σ:=[nmE S.disk]) zNA rfl (by kernel_rfl) (show All2 (WR _) _ [.int .i64 S.disk] from ⟨zcq rfl h.disk.1 h.disk.2,trivial⟩)).mono ?_;rintro u M' ⟨τ,A',hl,h1,h2,h3,h4,h5⟩;obtain⟨e,he,rfl⟩:=tp2 h1;exact⟨e.addr,A',rfl,⟨_,hl,h2,e,he,rfl⟩,h3,h4,h5⟩
theorem zJP {S:StI} (h:znm S) {A:Mem} {d:Nat} (hd:zyi A d) (hA:A.le M) {self:Nat} (hs:self≤63) :
  CallsM Tryz.prog F.zcJ [ptr d,.int .i64 (self:Nat),.agg #[.int .i64 S.qh,.int .i64 S.qb,.int .i64 S.qg],.int .i64 S.seg] M fun v M'=>∃ c C,v = .tuple #[ptr c,.int .i64 0]∧CusB C c∧C.le M'∧∀ y o,A y=none→M y=some o→M' y=some o∧C y=none:=by
 obtain⟨σ,hl,hr,e,he,rfl⟩:=hd
 match σ,hl,he with
 | [e0,e1,e2],_,he=>
  have he:e2=e:=by simpa using he
  subst he
  refine(CallsM.frame (zt0 zgj zNB (hr.pad [nmE (self:Nat),nmE S.qh,nmE S.qb,nmE S.qg,nmE S.seg]) rfl (by kernel_rfl) (show All2 (WR _) bwO [ptr e2.addr,.int .i64 (self:Nat),.agg #[.int .i64 S.qh,.int .i64 S.qb,.int .i64 S.qg],.int .i64 S.seg] from
   ⟨zBY rfl,zcq rfl (by omega) (by omega),⟨_,show All2 (CR _) [.xx 4 0 0 255,.xx 5 0 0 2040,.xx 6 0 0 255] [_,_,_] from ⟨zcq rfl h.qh.1 h.qh.2,zcq rfl h.qb.1 h.qb.2,zcq rfl h.qg.1 h.qg.2,trivial⟩,rfl⟩,zcq rfl h.seg.1 h.seg.2,trivial⟩)) hA).mono ?_
  rintro u M' ⟨A',⟨τ,h1,h2,h3⟩,h4,h5⟩;obtain⟨e,he,rfl⟩:=tp2 h2;exact⟨e.addr,A',rfl,⟨_,h1,h3,e,he,rfl⟩,h4,h5⟩
theorem CusB.failed {c:Nat} (h:CusB M c):CallsM Tryz.prog F.zH [ptr c] M fun v M'=>v = .bool false∧M.le M':=by
 refine(ztC zgj zNF h rfl (by kernel_rfl) rfl (by kernel_rfl)).mono ?_;rintro u M' ⟨h1,σ',h2, -⟩;have h2:some (Value.bool false)=some u:=h2
 cases h2;exact⟨rfl,h1⟩
theorem CusB.held {c:Nat} (h:CusB M c):CallsM Tryz.prog F.zaN [ptr c] M fun v M'=>v = .slice none 0 0∧M.le M':=by
 refine(ztC zgj zNE h rfl (by kernel_rfl) rfl (by kernel_rfl)).mono ?_;rintro u M' ⟨h1,σ',h2, -⟩;have h2:some (Value.slice none 0 0)=some u:=h2
 cases h2;exact⟨rfl,h1⟩
theorem CusB.state {c:Nat} (h:CusB M c):CallsM Tryz.prog F.zal [ptr c] M fun v M'=>(∃ me,v = .agg #[.int .i64 me,.int .i64 1,.slice none 0 0,.slice none 0 0,.slice none 0 0])∧M.le M':=by
 refine(ztC zgj zND h rfl (by kernel_rfl) rfl (by kernel_rfl)).mono ?_;rintro u M' ⟨h1,σ',⟨vs,h2,rfl⟩, -⟩
 match vs,h2 with
 | [v0,v1,v2,v3,v4],⟨h3,h4,h5,h6,h7,_⟩=>
  obtain⟨e,n, -, -, -, -, rfl⟩:=C.val_xx h3;rw[zlW h4];have h5:some (Value.slice none 0 0)=some v2:=h5
  have h6:some (Value.slice none 0 0)=some v3:=h6;have h7:some (Value.slice none 0 0)=some v4:=h7
  cases h5;cases h6;cases h7;exact⟨⟨_,rfl⟩,h1⟩
theorem zL6 {w:Int} (h:1≤w∧w≤8):CallsM Tryz.prog F.zj2 [.int .i64 w] M fun v M'=>(∃ b,v = .tuple #[ptr b,.int .i64 0])∧M.le M':=by
 refine(zlV zgj (σ:=[nmE w]) zNG rfl (by kernel_rfl) (show All2 (WR _) _ [.int .i64 w] from ⟨zcq rfl h.1 h.2,trivial⟩)).mono ?_;rintro u M' ⟨τ,A',hl,h1,h2,h3,h4,h5⟩;obtain⟨e,he,rfl⟩:=tp2 h1;exact⟨⟨e.addr,rfl⟩,h4⟩
theorem hdlc_new:CallsM Tryz.prog F.zhr [] M fun v M'=>(∃ b,v=ptr b)∧M.le M':=by
 refine(zlV zgj (σ:=[]) zNH rfl (by kernel_rfl) (show All2 (WR _) [] [] from trivial)).mono ?_;rintro u M' ⟨τ,A',hl,h1,h2,h3,h4,h5⟩;obtain⟨e,he,rfl⟩:=ztv h1;exact⟨⟨e.addr,rfl⟩,h4⟩
theorem zL7 {S:StI} (h:znm S):CallsM Tryz.prog F.zhq [.int .i64 512,.int .i64 S.win,.int .i64 S.timer,.int .i64 S.tries] M fun v M'=>∃ e,v = .tuple #[ptr e,.int .i64 0]∧M.le M'∧EndN M' e∧M e=none:=by
 refine(zlV zgj (σ:=[nmE S.win,nmE S.timer,nmE S.tries]) zNI rfl (by kernel_rfl) (show All2 (WR _) [.c (i 512),.c (.xx 0 0 1 63),.c (.xx 1 0 1 8),.c (.xx 2 0 1 4)] [.int .i64 512,.int .i64 S.win,.int .i64 S.timer,.int .i64 S.tries] from
  ⟨rfl,zcq rfl h.win.1 h.win.2,zcq rfl h.timer.1 h.timer.2,zcq rfl h.tries.1 h.tries.2,trivial⟩)).mono ?_
 rintro u M' ⟨τ,A',hl,h1,h2,h3,h4,h5⟩;obtain⟨e,he,rfl⟩:=tp2 h1;obtain⟨vs,h6,h7⟩:=zNx h2 (a:=7) (E0:=T.zbd) (l:=blC) (by kernel_rfl) he;obtain⟨e8,h8,us,h9,h10⟩:=h2.has 8 (.gr T.zma 7 [i 5,i 0,i 0,.t false,i 512,i 0,.nl]) (by kernel_rfl);refine⟨e.addr,rfl,h4,?_,?_⟩
 ·match vs,h6 with
  | [v0,v1,v2,v3,v4,v5,v6,v7,v8,v9,v10,v11,v12,v13,v14],⟨a0,a1,a2,a3,a4,a5,a6,a7,a8,a9,a10,a11,a12,a13,a14,_⟩=>
   cases zlW a0;have a1:some (Value.int .i64 (-1))=some v1:=a1
   cases a1;have a2:some (Value.bool false)=some v2:=a2
   cases a2;cases zyh rfl a3;cases zyh rfl a4;cases zyh rfl a5;cases zyh rfl a6;cases zlW a7;cases zlW a8;have a9:some (Value.bool false)=some v9:=a9
   cases a9;have a10:some (Value.bool false)=some v10:=a10
   cases a10;obtain⟨e3, -, rfl⟩:=ztv a11;obtain⟨e4, -, rfl⟩:=ztv a12;have a14:some (Value.slice none 0 0)=some v14:=a14
   cases a14;rcases h10 with ⟨hn,hl0, -⟩|⟨hn,hc, -⟩
   ·cases hl0
   simp only[CR,C.val,h8,Option.bind_some,hn] at a13;split at a13
   ·rename_i hx;cases hx
   split at a13
   ·cases a13
    match us,h9 with
    | [u0,u1,u2,u3,u4,u5,u6],⟨b0,b1,b2,b3,b4,b5,b6,_⟩=>
     cases zlW b0;cases zlW b1;cases zlW b2;cases zlW b4;cases zlW b5;have b3:some (Value.bool false)=some u3:=b3
     cases b3;have b6:some (Value.slice none 0 0)=some u6:=b6
     cases b6;refine⟨S.win,S.timer,S.tries,e3.addr,e4.addr,e8.addr,e8.cap - 0,e8.sp,?_,?_⟩
     ·refine Mem.has.le h3 ?_;unfold Mem.has;rw[h7];simp only[Int.add_zero];rfl
     ·refine Mem.has.le h3 ?_;unfold Mem.has;rw[hc];rfl
   ·cases a13
 ·cases hM:M e.addr with
  | none=>rfl
  | some o=>
   have:=h5 e.addr (by rw[hM];simp);rw[this] at h7;cases h7
def sabB:List UInt8:=[126,3,111,2,0,0,0,203,9,126]
theorem frame_put:CallsM Tryz.prog F.zdu [.agg (zzp).toArray] M fun v M'=>M.le M'∧∃ σ A,∃ p,v = .tuple #[p,.int .i64 0]∧(∃ q n c,p = .slice q n c)∧σ.length=11∧CR σ (.g 10 0 0 6) p∧HR σ bhP A∧A.le M'∧∀ y,M y≠none→A y=none:=by
 refine(zlV zgj (σ:=[]) zNJ rfl (by kernel_rfl) (show All2 (WR _) bwP [.agg (zzp).toArray] from ⟨⟨_,show All2 (CR _) [i 5,i 0,i 0,.t false,i 512,i 0,.nl] zzp from ⟨rfl,rfl,rfl,rfl,rfl,rfl,rfl,trivial⟩,rfl⟩,trivial⟩)).mono ?_;rintro u M' ⟨τ,A',hl,⟨vs,h1,rfl⟩,h2,h3,h4,h5⟩
 match vs,h1 with
 | [v0,v1],⟨h6,h7,_⟩=>
  rw[zlW h7];obtain⟨q,c,e⟩:=zK3 h6;exact⟨h4,_,A',v0,rfl,⟨q,6,c,e⟩,hl,h6,h2,h3,h5⟩
theorem zHt {σ:List E} {A:Mem} {p:Value} (h1:σ.length=11) (h2:CR σ (.g 10 0 0 6) p) (h3:HR σ bhP A) (h4:A.le M) :
  CallsM Tryz.prog F.zdv [p] M fun v M'=>∃ q c,v = .tuple #[.slice q 10 c,.int .i64 0]∧SrcOk M' 1 q 10 (sabB.map z7)∧∀ y o,A y=none→M y=some o→M' y=some o:=by
 refine(CallsM.frame (zt0 zgj zNK h3 h1 (by kernel_rfl) (show All2 (WR _) [.c (.g 10 0 0 6)] [p] from ⟨h2,trivial⟩)) h4).mono ?_;rintro u M' ⟨A',⟨τ,hl,⟨vs,h5,rfl⟩,h6⟩,h7,h8⟩
 match vs,h5 with
 | [v0,v1],⟨h9,h10,_⟩=>
  rw[zlW h10];obtain⟨q,c,rfl⟩:=zK3 h9;refine⟨q,c,rfl,?_,fun y o hy ho=>(h8 y o hy ho).1⟩;obtain⟨vs,h11,h12⟩:=zOr h6 (a:=26) (z:=1) (E0:=T.zY) (l:=[u 126,u 3,u 111,u 2,u 0,u 0,u 0,u 203,u 9,u 126]) (by kernel_rfl) h9 rfl;have e:vs=sabB.map z7:=All2.fn (Q:=CR _) (fun _ _ _=>CR.fn) h11 ⟨rfl,rfl,rfl,rfl,rfl,rfl,rfl,rfl,rfl,rfl,trivial⟩
  rw[←e];exact h12.le h7
end Go.Proofs.YtpnhjkiligohnaaGreatDoor
namespace Go.Proofs.YtpnhjkiligohnaaGreatDoor
open Go Go.Vm
attribute [local irreducible] Brn Ob Grow CallsM inR zay zav Mem.row Mem.cells Mem.setCells Mem.upd Go.Vm.Own zaU zbF zbE zaV New SrcOk zah NewSl Mem.textAt Mem.mapAt Mem.iterAt zak kfind Wr NewEls Elems
set_option maxRecDepth 10000
section
variable {M M':Mem}
theorem zHu {x:Nat} {self:Int} {S:StI} {c sm:Nat} {t d:Value} (h:M.has x T.zae (zc6 self S c sm t d)) (hc:CusB M c) (up:Value) (hu:∃ q n c,up = .slice q n c) :
  CallsM Tryz.prog F.zbP [ptr x,up] M fun v M'=>v = .tuple #[]∧M.le M':=by
 obtain⟨q,n,c',rfl⟩:=hu;refine zsw (by simp) ?_;(conv=>whnf);refine on (h.c1 rfl) ?_;refine zR ?_;refine hc.held.mono ?_;rintro v M1 ⟨rfl,h1⟩;refine zR ?_;(conv=>whnf)
 exact⟨rfl,h1⟩
structure SidesN (M:Mem) (sm:Nat) (nb bs es:List Nat):Prop where
 map:MapAt zbw zam M sm (zbU nb bs)
 lt:nb.Pairwise (· < ·)
 lb:bs.length=nb.length
 le':es.length=nb.length
 few:nb.length≤64
 nb':bs.Nodup
 ne':es.Nodup
 side:∀ (j b e:Nat),bs[j]? = some b→es[j]? = some e→SideN M b e
theorem SidesN.le {sm:Nat} {nb bs es:List Nat} (h:SidesN M sm nb bs es) (hle:M.le M'):SidesN M' sm nb bs es:=
 ⟨h.map.mono fun o ho=>hle _ _ ho,h.lt,h.lb,h.le',h.few,h.nb',h.ne',fun j b e hb he=>(h.side j b e hb he).le hle⟩
theorem SidesN.at {sm:Nat} {nb bs es:List Nat} (h:SidesN M sm nb bs es) {j:Nat} (hj:j<nb.length):∃ k b e,nb[j]? = some k∧bs[j]? = some b∧es[j]? = some e∧zL (zbU nb bs) (k:Int)=some b∧SideN M b e:=by
 have h1:nb[j]? = some nb[j]:=List.getElem?_eq_getElem hj;have h2:bs[j]? = some (bs[j]'(by rw[h.lb];exact hj)):=List.getElem?_eq_getElem _
 have h3:es[j]? = some (es[j]'(by rw[h.le'];exact hj)):=List.getElem?_eq_getElem _;exact⟨_,_,_,h1,h2,h3,zB7 h.lt h.lb h1 h2,h.side _ _ _ h2 h3⟩
theorem SidesN.ty {sm:Nat} {nb bs es:List Nat} (h:SidesN M sm nb bs es) {y:Nat} (hy:y∈bs∨y∈es):(∃ l,M.has y T.zQ l)∨∃ l,M.has y T.zbd l:=by
 rcases hy with hy|hy
 ·obtain⟨j,hj⟩:=List.mem_iff_getElem?.1 hy;have hlt:=(List.getElem?_eq_some_iff.1 hj).1
  rw[h.lb] at hlt;obtain⟨k,b,e, -, hb,he, -, d,hs, -⟩:=h.at hlt;rw[hj] at hb;cases hb;exact .inl ⟨_,hs⟩
 ·obtain⟨j,hj⟩:=List.mem_iff_getElem?.1 hy;have hlt:=(List.getElem?_eq_some_iff.1 hj).1
  rw[h.le'] at hlt;obtain⟨k,b,e, -, hb,he, -, d, -, W,Tm,R,sp,rp,w,c,sp',he', -⟩:=h.at hlt;rw[hj] at he;cases he;exact .inr ⟨_,he'⟩
theorem SidesN.other {sm:Nat} {nb bs es:List Nat} (h:SidesN M sm nb bs es) {i:Nat} (hk:Mem.keep (fun y=>y∈bs.take i∨y∈es.take i) M M') {z:Nat} {E:TypeId} {l:List Value} (hz:M.has z E l) (h1:E≠T.zQ) (h2:E≠T.zbd):M'.has z E l:=by
 refine hk _ _ (fun hy=>?_) hz;rcases h.ty (hy.imp List.mem_of_mem_take List.mem_of_mem_take) with ⟨l',hl⟩|⟨l',hl⟩
 ·exact h1 (hz.inj hl).1
 ·exact h2 (hz.inj hl).1
theorem zhA {l:List Nat} (h:l.Nodup) {i j b:Nat} (hij:i≤j) (hb:l[j]? = some b):b∉l.take i:=fun hm=>by
 obtain⟨k,hk⟩:=List.mem_iff_getElem?.1 hm;rw[List.getElem?_take] at hk;split at hk
 ·have h1:=(List.getElem?_eq_some_iff.1 hk).1;have:=(List.getElem?_inj h1 h).1 (hk.trans hb.symm)
  omega
 ·cases hk
theorem SidesN.rest {sm:Nat} {nb bs es:List Nat} (h:SidesN M sm nb bs es) {i:Nat} (hk:Mem.keep (fun y=>y∈bs.take i∨y∈es.take i) M M') {j b e:Nat} (hij:i≤j) (hb:bs[j]? = some b) (he:es[j]? = some e):SideN M' b e:=by
 obtain⟨d,h1,W,Tm,R,sp,rp,w,c,sp',h2,h3⟩:=h.side j b e hb he;refine⟨d,hk _ _ ?_ h1,W,Tm,R,sp,rp,w,c,sp',hk _ _ ?_ h2,h.other hk h3 (by decide) (by decide)⟩
 ·rintro (hy|hy)
  ·exact zhA h.nb' hij hb hy
  ·obtain⟨k,hk'⟩:=List.mem_iff_getElem?.1 (List.mem_of_mem_take hy);have hlt:=(List.getElem?_eq_some_iff.1 hk').1
   rw[h.le'] at hlt;obtain⟨_,b',e', -, hb',he', -, d', -, W,Tm,R,sp,rp,w,c,sp',h4, -⟩:=h.at hlt;rw[hk'] at he';cases he';have:=(h1.inj h4).1;revert this;decide
 ·rintro (hy|hy)
  ·obtain⟨k,hk'⟩:=List.mem_iff_getElem?.1 (List.mem_of_mem_take hy);have hlt:=(List.getElem?_eq_some_iff.1 hk').1
   rw[h.lb] at hlt;obtain⟨_,b',e', -, hb',he', -, d',h4, -⟩:=h.at hlt;rw[hk'] at hb';cases hb';have:=(h2.inj h4).1;revert this;decide
  ·exact zhA h.ne' hij he hy
theorem SideB.keep {b:Nat} (h:SideB M b) {S:Nat→Prop} (hk:Mem.keep S M M') (hb:¬S b) (hS:∀ y l,M.has y T.zY l→¬S y):SideB M' b:=by
 obtain⟨e,d,q,n,c,L,h1,h2,h3,h4⟩:=h;refine⟨e,d,q,n,c,L,hk _ _ hb h1,(h2.minus fun r hr hs=>?_).le (Mem.keep_minus.1 hk),h3,fun r hr=>?_⟩
 ·obtain⟨ds,hd⟩:=h4 r hr;exact hS _ _ hd hs
 ·obtain⟨ds,hd⟩:=h4 r hr;exact⟨ds,hk _ _ (hS _ _ hd) hd⟩
theorem zHv {x:Nat} {self:Int} {S:StI} {c sm:Nat} {t d:Value} {nb bs es:List Nat} (hx:M.has x T.zae (zc6 self S c sm t d)) (hS:SidesN M sm nb bs es) (hc:CusB M c) :
  CallsM Tryz.prog F.zaw [ptr x] M fun v M'=>v = .tuple #[]∧Mem.keep (fun y=>y∈bs∨y∈es) M M'∧∀ b∈bs,SideB M' b:=by
 have hfew:=hS.few;refine zst (by simp) ?_;refine zR ?_;refine(zB8 hx hS.map hS.lt hS.lb hS.few).mono ?_;rintro v M1 ⟨q1,c1,rfl,hN1⟩;have hle1:=hN1.le
 refine zR ?_;(conv=>whnf)
 refine ztL [18] (fun (i:Nat)=>[(18,.int .i64 (i:Nat))]) (fun i=>i≤nb.length) (fun i=>nb.length - i) 0 (by omega) zS ?_;intro i hi;(conv=>whnf);refine brn (fun g=>?_) (fun g=>?_)
 ·have g':i<nb.length:=by have:=Zd0 g;omega
  obtain⟨k,b,e,hk,hb,he,hget,hsd⟩:=(hS.le hle1).at g';obtain⟨hlt,b1,o1,rfl,hrow⟩:=hN1.src.at (i:=i) g';have hkk:nb[i]=k:=by rw[List.getElem?_eq_getElem g'] at hk;exact Option.some.inj hk
  rw[hkk] at hrow;obtain⟨dc,hsb,hen⟩:=hsd;(conv=>whnf);refine ob (by omega) ?_;(conv=>whnf);refine on hrow ?_;refine zR ?_;refine on ((hx.le hle1).c1 rfl) ?_;refine zR ?_;refine(hS.map.mono fun o ho=>hle1 _ _ ho).get zzo (k:Int) (fun h0=>by rw[hget] at h0;cases h0) (fun b' _ h1=>?_);rw[hget] at h1;cases h1;refine zR ?_;refine on (hsb.c1 rfl) ?_;(conv=>whnf);refine on (hsb.c1 rfl) ?_;refine zR ?_;refine hen.resets.mono ?_;rintro v _ ⟨rfl,rfl⟩;refine zR ?_;refine on (hsb.c1 rfl) ?_;refine zR ?_;refine hen.up.mono ?_;rintro v _ ⟨rfl,rfl⟩;refine zR ?_;refine obr (zm (by first|omega|(dsimp only;omega))) ?_;(conv=>whnf)
  exact⟨i+1,by omega,by omega,zS⟩
 ·refine zR ?_;refine on ((hx.le hle1).c1 rfl) ?_;refine zR ?_;refine(hc.le hle1).failed.mono ?_;rintro v M2 ⟨rfl,hle2⟩;have hle2':=Mem.le_trans hle1 hle2
  refine zR ?_;refine(zHu (hx.le hle2') (hc.le hle2') _ ⟨_,_,_,rfl⟩).mono ?_;rintro v M3 ⟨rfl,hle3⟩;have hle3':=Mem.le_trans hle2' hle3
  refine zR ?_;refine(zB8 (hx.le hle3') (hS.le hle3').map hS.lt hS.lb hS.few).mono ?_;rintro v M4 ⟨q4,c4,rfl,hN4⟩;have hle4:=Mem.le_trans hle3' hN4.le
  have hx4:=hx.le hle4;have hS4:=hS.le hle4
  refine zR ?_;(conv=>whnf)
  refine zaL (σ:=Nat×Mem) [74] (fun y=>[(74,.int .i64 (y.1:Nat))]) (fun _=>[]) (fun y=>y.2)
   (fun|⟨i,Mc⟩=>i≤nb.length∧Mem.keep (fun y=>y∈bs.take i∨y∈es.take i) M4 Mc∧∀ b∈bs.take i,SideB Mc b) (fun y=>nb.length - y.1) ⟨0,M4⟩ ⟨by omega,Mem.keep_refl _ _,by simp⟩ zS ?_
  rintro ⟨i,Mc⟩ ⟨hi,hk,hB⟩;(conv=>whnf);refine brn (fun g=>?_) (fun g=>?_)
  ·have g':i<nb.length:=by have:=Zd0 g;dsimp only at this;omega
   obtain⟨k,b,e,hkj,hb,he,hget,dc,hsb,hen⟩:=hS4.at g';obtain⟨hlt,b1,o1,rfl,hrow⟩:=hN4.src.at (i:=i) g';have hkk:nb[i]=k:=by rw[List.getElem?_eq_getElem g'] at hkj;exact Option.some.inj hkj
   rw[hkk] at hrow;obtain⟨_,cs1,hb1⟩:=hN4.block rfl;have hb1c:=hS4.other hk hb1 (by decide) (by decide)
   have hrow':Mc.row b1 (o1+i*1) 1=some [ztB k]:=by
    unfold Mem.has at hb1 hb1c;unfold Mem.row at hrow ⊢;rw[hb1] at hrow;rw[hb1c];exact hrow
   obtain⟨dc,hsb,hen⟩:=hS4.rest hk (Nat.le_refl i) hb he;have hxc:=hS4.other hk hx4 (by decide) (by decide)
   have hmc:MapAt zbw zam Mc sm (zbU nb bs):=hS4.map.mono fun o ho=>hk sm o (fun hy=>by
    rcases hS4.ty (hy.imp List.mem_of_mem_take List.mem_of_mem_take) with ⟨l',hl⟩|⟨l',hl⟩
    ·exact hS4.map.nb hl rfl
    ·exact hS4.map.nb hl rfl) ho
   (conv=>whnf);refine ob (by dsimp only;omega) ?_;(conv=>whnf);refine on hrow' ?_;refine zR ?_;refine on (hxc.c1 rfl) ?_;refine zR ?_;refine hmc.get zzo (k:Int) (fun h0=>by rw[hget] at h0;cases h0) (fun b' _ h1=>?_);rw[hget] at h1;cases h1;refine zR ?_;refine on (hsb.c1 rfl) ?_;refine zR ?_;refine hen.out.mono ?_;rintro v M5 ⟨w,cw,sp,rfl,hw,l5,hM5,l5',he5⟩;have hk5:Mem.keep (fun y=>y=e) Mc M5:=hM5▸zfl _ _ _ _
   have hw5:M5.has w T.zma (zzp++sp):=hk5 _ _ (fun h=>by subst h;have:=(hw.inj he5).1;revert this;decide) hw;have hsb5:=hk5 _ _ (fun h=>by subst h;have:=(hsb.inj he5).1;revert this;decide) hsb
   refine zR ?_;(conv=>whnf)
   refine zaL (σ:=Nat×Mem) [90] (fun y=>[(90,.int .i64 (y.1:Nat))]) (fun _=>[]) (fun y=>y.2)
    (fun|⟨j,Md⟩=>j≤1∧(j=0→Md=M5)∧(j=1→Mem.keep (fun y=>y=b∨y=e) Mc Md∧SideB Md b)) (fun y=>1 - y.1) ⟨0,M5⟩ ⟨by omega,fun _=>rfl,fun h=>by omega⟩ zS ?_
   rintro ⟨j,Md⟩ ⟨hj,hj0,hj1⟩;(conv=>whnf);refine brn (fun g2=>?_) (fun g2=>?_)
   ·have g2':j=0:=by have:=Zd0 g2;dsimp only at this;omega
    subst g2';cases hj0 rfl;(conv=>whnf);refine ob (by dsimp only;omega) ?_;(conv=>whnf);refine on (hw5.row (o:=0+0*7) (n:=7) (by simp)) ?_;refine zR ?_;refine frame_put.mono ?_;rintro v M6 ⟨hle6,σ,A,p,rfl,⟨qp,np,cp,rfl⟩,hσ,hp,hA,hAle,hAn⟩;refine zR ?_;refine(zHt hσ hp hA hAle).mono ?_;rintro v M7 ⟨qf,cf,rfl,hf,hk7⟩;have hle7:M5.le M7:=fun y o ho=>hk7 y o (hAn y (by dsimp only;rw[ho];simp)) (hle6 y o ho)
    have hsb7:M7.has b T.zQ [ptr e,ptr dc,.int .i64 0,.slice none 0 0]:=hle7 _ _ hsb5;refine zR ?_;refine on (hsb7.c1 rfl) ?_;refine zR ?_;refine zkt hf ?_;(conv=>whnf);refine appK M7 _ (NewSl.none M7 T.zY 1) (by decide) (by decide) (zzz sabB) fun a8 c8 M8 hN8 hk8=>?_
    have hsb8:=hsb7.le hN8.le;refine zR ?_;refine on hsb8.cells ?_;(conv=>whnf);refine ob (by simp) ?_;obtain⟨M9,hM9⟩:∃ M9,M9=M8.setCells b T.zQ [ptr e,ptr dc,.int .i64 0,.slice a8 (0+10) c8]:=⟨_,rfl⟩
    have hk9:Mem.keep (fun y=>y=b) M8 M9:=hM9▸zfl _ _ _ _;have hb9:M9.has b T.zQ [ptr e,ptr dc,.int .i64 0,.slice a8 (0+10) c8]:=hM9▸Mem.has_setCells
    (conv=>whnf);erw [←hM9];refine zR ?_;refine obr (zm (by first|omega|(dsimp only;omega))) ?_;(conv=>whnf)
    refine⟨⟨1,M9⟩,⟨by omega,fun h=>by omega,fun _=>⟨?_,?_⟩⟩,by dsimp only;omega,zS⟩
    ·exact fun y o hy ho=>hk9 y o (fun h=>hy (.inl h)) (hN8.le _ _ (hle7 _ _ (hk5 y o (fun h=>hy (.inr h)) ho)))
    ·have hr8:∀ r,a8=some r→∃ ds,M9.has r.block T.zY ds:=fun r hr=>by
      obtain⟨_,ds,hd⟩:=hN8.block hr;exact⟨ds,hk9 _ _ (fun h=>by subst h;have:=(hd.inj hsb8).1;revert this;decide) hd⟩
     refine⟨_,_,a8,0+10,c8,sabB,hb9,?_,by omega,hr8⟩
     exact(hN8.src.minus fun r hr h=>by
      obtain⟨_,ds,hd⟩:=hN8.block hr
      subst h;have:=(hd.inj hsb8).1;revert this;decide).le (Mem.keep_minus.1 hk9)
   ·have g2':j=1:=by have:=Zd1 g2;dsimp only at this;omega
    obtain⟨hkd,hBd⟩:=hj1 g2';refine zR ?_;refine obr (zm (by first|omega|(dsimp only;omega))) ?_;(conv=>whnf)
    have hti:bs.take (i+1)=bs.take i++[b]:=by rw[List.take_add_one,hb];rfl
    have htj:es.take (i+1)=es.take i++[e]:=by rw[List.take_add_one,he];rfl
    refine⟨⟨i+1,Md⟩,⟨by omega,?_,?_⟩,by dsimp only;omega,zS⟩
    ·refine fun y o hy ho=>hkd y o (fun h=>hy ?_) (hk y o (fun h=>hy ?_) ho)
     ·rw[hti,htj];simp only[List.mem_append,List.mem_singleton];rcases h with h|h
      ·exact .inl (.inr h)
      ·exact .inr (.inr h)
     ·rw[hti,htj];simp only[List.mem_append,List.mem_singleton];rcases h with h|h
      ·exact .inl (.inl h)
      ·exact .inr (.inl h)
    ·intro b' hb';rw[hti] at hb';simp only[List.mem_append,List.mem_singleton] at hb';rcases hb' with hb'|rfl
     ·refine(hB b' hb').keep hkd ?_ ?_
      ·rintro (rfl|rfl)
       ·exact zhA hS4.nb' (Nat.le_refl i) hb hb'
       ·obtain⟨e1,d1,q1,n1,c1,L1,h1, -⟩:=hB _ hb';have:=(h1.inj he5).1;revert this;decide
      ·rintro y l hy (rfl|rfl)
       ·have:=(hy.inj hsb).1;revert this;decide
       ·have:=(hy.inj he5).1;revert this;decide
     ·exact hBd
  ·have g':i=nb.length:=by have:=Zd1 g;dsimp only at this;omega
   have hlb:=hS.lb;subst g';rw[List.take_of_length_le (by omega),List.take_of_length_le (by rw[hS.le'];omega)] at hk;rw[List.take_of_length_le (by omega)] at hB;refine zR ?_;(conv=>whnf)
   exact⟨rfl,fun y o hy ho=>hk y o hy (hle4 y o ho),hB⟩
end
section
variable {M M':Mem}
theorem zJQ {x:Nat} {self:Int} {S:StI} {c sm:Nat} {t d:Value} (h:M.has x T.zae (zc6 self S c sm t d)) (hc:CusB M c) :
  CallsM Tryz.prog F.zb1 [ptr x] M fun v M'=>v = .bool false∧M.le M':=by
 refine zup (by simp) ?_;refine zR ?_;refine on (h.c1 rfl) ?_;refine zR ?_;refine hc.failed.mono ?_;rintro v M1 ⟨rfl,h1⟩;refine zR ?_;(conv=>whnf)
 exact⟨rfl,h1⟩
theorem zNL {y:Nat} {E:TypeId} {l:List Value} (h:M.has y E l) (hE:E=T.zae∨E=T.zQ∨E=T.zN∨E=T.zbd∨E=T.zt∨E=T.zad):∃ E l,M.has y E l∧bhO.noT E=true:=by
 refine⟨E,l,h,?_⟩;rcases hE with rfl|rfl|rfl|rfl|rfl|rfl<;>kernel_rfl
theorem CusB.keep {c:Nat} (h:CusB M c) {Z:Nat→Prop} (hk:Mem.keep Z M M') (hZ:∀ y,Z y→∃ E l,M.has y E l∧(E=T.zae∨E=T.zQ∨E=T.zN∨E=T.zbd∨E=T.zt∨E=T.zad)):CusB M' c:=
 Rn.MObj.keepT h hk fun y hy=>by
  obtain⟨E,l,h1,h2⟩:=hZ y hy;exact zNL h1 h2
structure zAG (M:Mem) (p b r:Nat) (S:StI) (n:Nat) (L:List (Nat×Nat)) (ns:List Value) (ds:List Nat) (mb:Nat) (lm:List ((Nat×Nat)×Nat)):Prop where
 cells:∃ lk c cs,M.has p T.zad (zdK S lk (.slice (some ⟨r,0,none⟩) n c) (.slice (some ⟨b,0,none⟩) n n) mb)∧M.has b T.zt ns∧M.has r T.zbs cs∧cs.take n=ds.map zam
 len:ns.length=n
 dlen:ds.length=n
 map:MapAt kvL zam M mb lm
 keys:∀ w,w∈zaz L↔(zL lm w).isSome
 nd:(lm.map (·.2)).Nodup
theorem zHw {lm:List ((Nat×Nat)×Nat)} (hn:(lm.map (·.2)).Nodup) {w v:Nat×Nat} {b:Nat} (h1:zL lm w=some b) (h2:zL lm v=some b):w=v:=by
 have h3:=zv5 h1;have h4:=zv5 h2
 obtain⟨i,hi⟩:=List.mem_iff_getElem?.1 h3;obtain⟨j,hj⟩:=List.mem_iff_getElem?.1 h4;have h5:(lm.map (·.2))[i]? = (lm.map (·.2))[j]? := by rw[List.getElem?_map,List.getElem?_map,hi,hj];rfl
 have h6:i<(lm.map (·.2)).length:=by have:=(List.getElem?_eq_some_iff.1 hi).1;simpa using this
 have:=(List.getElem?_inj h6 hn).1 h5;subst this;rw[hi] at hj;simpa using hj
theorem zFY {p nb r:Nat} {S:StI} {n:Nat} {L:List (Nat×Nat)} {ns:List Value} {ds:List Nat} {mb:Nat} {lm:List ((Nat×Nat)×Nat)} (hQ:zAG M p nb r S n L ns ds mb lm) (hn:n≤64) {i x:Nat} (hi:ns[i]? = some (ptr x)) (hd:0≤S.delay∧S.delay≤64)
  {self:Int} {c sm:Nat} {t d:Value} {bs:List Nat} (hx:M.has x T.zae (zc6 self S c sm t d)) (hm:MapAt zbw zam M sm (zbU (zaK L i n) bs)) (hlb:bs.length=(zaK L i n).length) (hbs:bs.Nodup) (hB:∀ b∈bs,SideB M b) (hc:CusB M c)
  (hl:∀ k b,zL lm (i,k)=some b→M.has b T.zN (zgq S.delay)) :
  CallsM Tryz.prog F.zap [ptr p,.int .i64 (i:Nat)] M fun v M'=>v = .tuple #[]∧Mem.keep (fun y=>y=x∨y∈bs∨∃ k,zL lm (i,k)=some y) M M'∧M'.has x T.zae (zc6 self S c sm t d):=by
 obtain⟨lk,cd,cs,hp,hnb, -, -⟩:=hQ.cells;have hlen:=hQ.len
 have hin:i<n:=by have:=(List.getElem?_eq_some_iff.1 hi).1;omega
 refine zru (by simp) ?_;(conv=>whnf);refine on (hp.c1 rfl) ?_;(conv=>whnf);refine ob (by omega) ?_;(conv=>whnf);refine on (hnb.c1 (o:=0+i*1) (by simpa using hi)) ?_;refine zR ?_;refine(zB6 hx).mono ?_;rintro v M1 ⟨rfl,hM1⟩;have hk1:Mem.keep (fun y=>y=x) M M1:=hM1▸zfl _ _ _ _
 have hx1:M1.has x T.zae (zc6 self S c sm t d):=hM1▸Mem.has_setCells;have hc1:CusB M1 c:=hc.keep hk1 fun y hy=>⟨_,_,hy▸hx,.inl rfl⟩
 refine zR ?_;(conv=>whnf)
 refine ztL [21] (fun (j:Nat)=>[(21,.int .i64 (j:Nat))]) (fun j=>j=0) (fun j=>0) 0 rfl zS ?_;rintro j rfl;refine zR ?_;refine(zJQ hx1 hc1).mono ?_;rintro v M2 ⟨rfl,hle2⟩;have oth:∀ {z:Nat} {E:TypeId} {l:List Value},M.has z E l→E≠T.zae→M2.has z E l:=fun {z E l} hz hE=>hle2 _ _ (hk1 _ _ (fun h=>by subst h;exact hE (hz.inj hx).1) hz)
 have hp2:=oth hp (by decide);have hnb2:=oth hnb (by decide)
 have hmb2:MapAt kvL zam M2 mb lm:=hQ.map.mono fun o ho=>hle2 _ _ (hk1 mb o (fun h=>hQ.map.nb hx h.symm) ho)
 have hsm2:MapAt zbw zam M2 sm (zbU (zaK L i n) bs):=hm.mono fun o ho=>hle2 _ _ (hk1 sm o (fun h=>hm.nb hx h.symm) ho)
 have hx2:=hx1.le hle2;refine zR ?_;refine(zB5 hp2 hmb2 hQ.keys hn i).mono ?_;rintro v M3 ⟨q3,c3,rfl,hN3⟩;have hle3:=hN3.le
 have hp3:=hp2.le hle3;have hx3:=hx2.le hle3
 have hmb3:MapAt kvL zam M3 mb lm:=hmb2.mono fun o ho=>hle3 _ _ ho
 have hsm3:MapAt zbw zam M3 sm (zbU (zaK L i n) bs):=hsm2.mono fun o ho=>hle3 _ _ ho
 have oth3:∀ {z:Nat} {E:TypeId} {l:List Value},M.has z E l→E≠T.zae→M3.has z E l:=fun {z E l} hz hE=>(oth hz hE).le hle3
 have hB3:∀ b∈bs,SideB M3 b:=fun b hb=>by
  obtain⟨e,d,q,n,c,L,h1,h2,h3,h4⟩:=hB b hb;refine⟨e,d,q,n,c,L,oth3 h1 (by decide),?_,h3,fun r hr=>?_⟩
  ·refine((h2.minus (S:=fun y=>y=x) fun r hr h=>?_).le (Mem.keep_minus.1 hk1)).le (Mem.le_trans hle2 hle3);obtain⟨ds,hd⟩:=h4 r hr;subst h;have:=(hd.inj hx).1;revert this;decide
  ·obtain⟨ds,hd⟩:=h4 r hr;exact⟨ds,oth3 hd (by decide)⟩
 have hl3:∀ k b,zL lm (i,k)=some b→M3.has b T.zN (zgq S.delay):=fun k b h=>oth3 (hl k b h) (by decide)
 have hnl:=zzF L i n;have hs3:=zB4 L i n
 refine zR ?_;(conv=>whnf)
 refine zaL (σ:=Nat×Mem) [57] (fun y=>[(57,.int .i64 (y.1:Nat))]) (fun _=>[]) (fun y=>y.2)
  (fun|⟨j,Mc⟩=>j≤(zaK L i n).length∧Mem.keep (fun y=>y∈bs.take j∨∃ k∈(zaK L i n).take j,zL lm (i,k)=some y) M3 Mc) (fun y=>(zaK L i n).length - y.1) ⟨0,M3⟩ ⟨by omega,Mem.keep_refl _ _⟩ zS ?_
 rintro ⟨j,Mc⟩ ⟨hj,hk⟩
 have other:∀ {z:Nat} {E:TypeId} {l:List Value},M3.has z E l→E≠T.zQ→E≠T.zN→Mc.has z E l:=fun {z E l} hz h1 h2=>hk _ _ (fun hy=>by
  rcases hy with hy|⟨k, -, hy⟩
  ·obtain⟨e,d,q,n,c,L,h3, -⟩:=hB3 z (List.mem_of_mem_take hy);exact h1 (hz.inj h3).1
  ·exact h2 (hz.inj (hl3 k z hy)).1) hz
 (conv=>whnf);refine brn (fun g=>?_) (fun g=>?_)
 ·have g':j<(zaK L i n).length:=by have:=Zd0 g;dsimp only at this;omega
  have hkj:(zaK L i n)[j]? = some ((zaK L i n)[j]):=List.getElem?_eq_getElem g';obtain⟨hlt,b1,o1,rfl,hrow⟩:=hN3.src.at (i:=j) g';obtain⟨k,hkk⟩:∃ k,k=(zaK L i n)[j]:=⟨_,rfl⟩
  rw[←hkk] at hrow hkj;have hbj:bs[j]? = some (bs[j]'(by omega)):=List.getElem?_eq_getElem _
  obtain⟨b,hbb⟩:∃ b,b=bs[j]'(by omega):=⟨_,rfl⟩
  rw[←hbb] at hbj;have hget:=zB7 hs3 hlb hkj hbj
  have hway:=(nearL_mem.1 (List.mem_of_getElem? hkj)).2;obtain⟨lb,hlget⟩:=Option.isSome_iff_exists.1 ((hQ.keys _).1 hway);obtain⟨_,cs1,hb1⟩:=hN3.block rfl;have hb1c:=other hb1 (by decide) (by decide)
  have hrow':Mc.row b1 (o1+j*1) 1=some [ztB k]:=by
   unfold Mem.has at hb1 hb1c;unfold Mem.row at hrow ⊢;rw[hb1] at hrow;rw[hb1c];exact hrow
  have hpc:=other hp3 (by decide) (by decide);have hxc:=other hx3 (by decide) (by decide)
  obtain⟨e,dc,q,m,cq,Ub,h1,h2,h3,h4⟩:=hB3 b (List.mem_of_getElem? hbj)
  have hbc:Mc.has b T.zQ [e,dc,.int .i64 0,.slice q m cq]:=hk _ _ (fun hy=>by
   rcases hy with hy|⟨k', -, hy⟩
   ·exact zhA hbs (Nat.le_refl j) hbj hy
   ·have:=(h1.inj (hl3 k' b hy)).1;revert this;decide) h1
  have hlc:Mc.has lb T.zN (zgq S.delay):=hk _ _ (fun hy=>by
   rcases hy with hy|⟨k',hk',hy⟩
   ·obtain⟨e,d,q,n,c,L,h3, -⟩:=hB3 lb (List.mem_of_mem_take hy);have:=(h3.inj (hl3 k lb hlget)).1;revert this;decide
   ·have e:=zHw hQ.nd hy hlget;simp only[Prod.mk.injEq,true_and] at e;subst e
    exact zhA ((hs3.imp fun {a b} h e=>by omega):(zaK L i n).Nodup) (Nat.le_refl j) hkj hk') (hl3 k lb hlget)
  (conv=>whnf);refine ob (by dsimp only;omega) ?_;(conv=>whnf);refine on hrow' ?_
  have hXb:∀ {z:Nat} {E:TypeId} {l:List Value},Mc.has z E l→E≠T.zQ→E≠T.zN→¬(z=b∨z=lb):=fun {z E l} hz ha hb' hc'=>by
   rcases hc' with hc'|hc'
   ·exact ha ((hc'▸hz:Mc.has b E l).inj hbc).1
   ·exact hb' ((hc'▸hz:Mc.has lb E l).inj hlc).1
  have hmbc:MapAt kvL zam (Mc.minus fun y=>y=b∨y=lb) mb lm:=hmb3.mono fun o ho=>by
   have h5:Mc mb=some o:=hk mb o (fun hy=>by
    rcases hy with hy|⟨k', -, hy⟩
    ·obtain⟨e,d,q,n,c,L,h3, -⟩:=hB3 mb (List.mem_of_mem_take hy);exact hmb3.nb h3 rfl
    ·exact hmb3.nb (hl3 k' mb hy) rfl) ho
   unfold Mem.minus;rw[if_neg]
   ·exact h5
   ·rintro (h6|h6)
    ·subst h6;exact hmb3.nb h1 rfl
    ·subst h6;exact hmb3.nb (hl3 k _ hlget) rfl
  refine zX ?_;refine⟨Mc.minus (fun y=>y=b∨y=lb),Mem.minus_le _ _,?_⟩;refine zX ?_;refine on ((hpc.minus (hXb hpc (by decide) (by decide))).c1 rfl) ?_;refine zX ?_;refine hmbc.get zpV (i,k) (fun h0=>by rw[hlget] at h0;cases h0) (fun b' _ h5=>?_);rw[hlget] at h5;cases h5;refine zX ?_;(conv=>whnf)
  have hsmc:MapAt zbw zam Mc sm (zbU (zaK L i n) bs):=hsm3.mono fun o ho=>hk sm o (fun hy=>by
   rcases hy with hy|⟨k', -, hy⟩
   ·obtain⟨e,d,q,n,c,L,h3, -⟩:=hB3 sm (List.mem_of_mem_take hy);exact hsm3.nb h3 rfl
   ·exact hsm3.nb (hl3 k' sm hy) rfl) ho
  refine(zJN hxc hsmc hget hbc).mono ?_;rintro v M6 ⟨rfl,hM6⟩;have hk6:Mem.keep (fun y=>y=b) Mc M6:=hM6▸zfl _ _ _ _
  have hl6:M6.has lb T.zN (zgq S.delay):=hk6 _ _ (fun h=>by subst h;have:=(hlc.inj hbc).1;revert this;decide) hlc
  have hs6:SrcOk M6 1 q m (Ub.map z7):=by
   refine(((h2.minus (S:=fun y=>y∈bs.take j∨∃ k∈(zaK L i n).take j,zL lm (i,k)=some y) fun r hr h=>?_).le (Mem.keep_minus.1 hk)).minus (S:=fun y=>y=b) fun r hr h=>?_).le (Mem.keep_minus.1 hk6)
   ·obtain⟨ds,hd⟩:=h4 r hr;rcases h with h|⟨k', -, h⟩
    ·obtain⟨e,d,q,n,c,L,h5, -⟩:=hB3 _ (List.mem_of_mem_take h);have:=(hd.inj h5).1;revert this;decide
    ·have:=(hd.inj (hl3 k' _ h)).1;revert this;decide
   ·obtain⟨ds,hd⟩:=h4 r hr;rw[h] at hd;have:=(hd.inj h1).1;revert this;decide
  have hX6:(Mc.minus fun y=>y=b∨y=lb).le M6:=fun y o ho=>by
   unfold Mem.minus at ho;split at ho
   ·cases ho
   ·rename_i hy;exact hk6 y o (fun h=>hy (.inl h)) ho
  refine zT (hX6) ?_;refine(zJK hd hl6 hs6 h3).mono ?_;rintro v M7 ⟨rfl,hk7⟩;have hX7:(Mc.minus fun y=>y=b∨y=lb).le M7:=fun y o ho=>hk7 y o (fun h=>by subst h;rw[Mem.minus_in (.inr rfl)] at ho;cases ho) (hX6 y o ho)
  refine zT (hX7) ?_;refine zR ?_;refine obr (zm (by first|omega|(dsimp only;omega))) ?_;(conv=>whnf)
  refine⟨⟨j+1,M7⟩,⟨by omega,fun y o hy ho=>hk7 y o (fun h=>hy ?_) (hk6 y o (fun h=>hy ?_) (hk y o (fun h=>hy ?_) ho))⟩,by dsimp only;omega,zS⟩
  ·refine .inr ⟨k,?_,h▸hlget⟩;rw[List.take_add_one,hkj];simp
  ·refine .inl ?_;rw[List.take_add_one,hbj,h];simp
  ·rcases h with h|⟨k',hk',h⟩
   ·exact .inl (by rw[List.take_add_one];exact List.mem_append_left _ h)
   ·exact .inr ⟨k',by rw[List.take_add_one];exact List.mem_append_left _ hk',h⟩
 ·have g':j=(zaK L i n).length:=by have:=Zd1 g;dsimp only at this;omega
  refine zR ?_;(conv=>whnf)
  refine⟨rfl,fun y o hy ho=>hk y o (fun h=>hy ?_) (hle3 _ _ (hle2 _ _ (hk1 _ _ (fun h=>hy (.inl h)) ho))),other hx3 (by decide) (by decide)⟩;rcases h with h|⟨k', -, h⟩
  ·exact .inr (.inl (List.mem_of_mem_take h))
  ·exact .inr (.inr ⟨k',h⟩)
end
section
structure Hd where
 c:Nat→Int
 left:Int
@[reducible] def Hd.vs (h:Hd):List Value:=[.int .i64 (h.c 0),.int .i64 (h.c 1),.int .i64 (h.c 2),.int .i64 (h.c 3),.int .i64 (h.c 4),.int .i64 (h.c 5),.int .i64 (h.c 6),.int .i64 (h.c 7),.int .i64 (h.c 8),.int .i64 (h.c 9),.int .i64 (h.c 10),.int .i64 (h.c 11),.int .i64 (h.c 12),.int .i64 (h.c 13),.int .i64 (h.c 14),.int .i64 (h.c 15),.int .i64 (h.c 16),.int .i64 (h.c 17),.int .i64 (h.c 18),.int .i64 (h.c 19),.int .i64 (h.c 20),.int .i64 (h.c 21),.int .i64 (h.c 22),.int .i64 (h.c 23),.int .i64 (h.c 24),.int .i64 (h.c 25),.int .i64 (h.c 26),.int .i64 (h.c 27),.int .i64 (h.c 28),.int .i64 (h.c 29),.int .i64 (h.c 30),.int .i64 (h.c 31),.int .i64 (h.c 32),.int .i64 (h.c 33),.int .i64 (h.c 34),.int .i64 (h.c 35),.int .i64 (h.c 36),.int .i64 (h.c 37),.int .i64 (h.c 38),.int .i64 (h.c 39),.int .i64 (h.c 40),.int .i64 (h.c 41),.int .i64 (h.c 42),.int .i64 (h.c 43),.int .i64 (h.c 44),.int .i64 (h.c 45),.int .i64 (h.c 46),.int .i64 (h.c 47),.int .i64 (h.c 48),.int .i64 (h.c 49),.int .i64 (h.c 50),.int .i64 (h.c 51),.int .i64 (h.c 52),.int .i64 (h.c 53),.int .i64 (h.c 54),.int .i64 (h.c 55),.int .i64 (h.c 56),.int .i64 (h.c 57),.int .i64 (h.c 58),.int .i64 (h.c 59),.int .i64 (h.c 60),.int .i64 (h.c 61),.int .i64 (h.c 62),.int .i64 (h.c 63),.int .i64 h.left]
@[reducible] def Hd.v (h:Hd):Value := .agg #[.int .i64 (h.c 0),.int .i64 (h.c 1),.int .i64 (h.c 2),.int .i64 (h.c 3),.int .i64 (h.c 4),.int .i64 (h.c 5),.int .i64 (h.c 6),.int .i64 (h.c 7),.int .i64 (h.c 8),.int .i64 (h.c 9),.int .i64 (h.c 10),.int .i64 (h.c 11),.int .i64 (h.c 12),.int .i64 (h.c 13),.int .i64 (h.c 14),.int .i64 (h.c 15),.int .i64 (h.c 16),.int .i64 (h.c 17),.int .i64 (h.c 18),.int .i64 (h.c 19),.int .i64 (h.c 20),.int .i64 (h.c 21),.int .i64 (h.c 22),.int .i64 (h.c 23),.int .i64 (h.c 24),.int .i64 (h.c 25),.int .i64 (h.c 26),.int .i64 (h.c 27),.int .i64 (h.c 28),.int .i64 (h.c 29),.int .i64 (h.c 30),.int .i64 (h.c 31),.int .i64 (h.c 32),.int .i64 (h.c 33),.int .i64 (h.c 34),.int .i64 (h.c 35),.int .i64 (h.c 36),.int .i64 (h.c 37),.int .i64 (h.c 38),.int .i64 (h.c 39),.int .i64 (h.c 40),.int .i64 (h.c 41),.int .i64 (h.c 42),.int .i64 (h.c 43),.int .i64 (h.c 44),.int .i64 (h.c 45),.int .i64 (h.c 46),.int .i64 (h.c 47),.int .i64 (h.c 48),.int .i64 (h.c 49),.int .i64 (h.c 50),.int .i64 (h.c 51),.int .i64 (h.c 52),.int .i64 (h.c 53),.int .i64 (h.c 54),.int .i64 (h.c 55),.int .i64 (h.c 56),.int .i64 (h.c 57),.int .i64 (h.c 58),.int .i64 (h.c 59),.int .i64 (h.c 60),.int .i64 (h.c 61),.int .i64 (h.c 62),.int .i64 (h.c 63),.int .i64 h.left]
@[reducible] def Hd.cs (h:Hd):List SC:=[.v (.int .i64 (h.c 0)),.v (.int .i64 (h.c 1)),.v (.int .i64 (h.c 2)),.v (.int .i64 (h.c 3)),.v (.int .i64 (h.c 4)),.v (.int .i64 (h.c 5)),.v (.int .i64 (h.c 6)),.v (.int .i64 (h.c 7)),.v (.int .i64 (h.c 8)),.v (.int .i64 (h.c 9)),.v (.int .i64 (h.c 10)),.v (.int .i64 (h.c 11)),.v (.int .i64 (h.c 12)),.v (.int .i64 (h.c 13)),.v (.int .i64 (h.c 14)),.v (.int .i64 (h.c 15)),.v (.int .i64 (h.c 16)),.v (.int .i64 (h.c 17)),.v (.int .i64 (h.c 18)),.v (.int .i64 (h.c 19)),.v (.int .i64 (h.c 20)),.v (.int .i64 (h.c 21)),.v (.int .i64 (h.c 22)),.v (.int .i64 (h.c 23)),.v (.int .i64 (h.c 24)),.v (.int .i64 (h.c 25)),.v (.int .i64 (h.c 26)),.v (.int .i64 (h.c 27)),.v (.int .i64 (h.c 28)),.v (.int .i64 (h.c 29)),.v (.int .i64 (h.c 30)),.v (.int .i64 (h.c 31)),.v (.int .i64 (h.c 32)),.v (.int .i64 (h.c 33)),.v (.int .i64 (h.c 34)),.v (.int .i64 (h.c 35)),.v (.int .i64 (h.c 36)),.v (.int .i64 (h.c 37)),.v (.int .i64 (h.c 38)),.v (.int .i64 (h.c 39)),.v (.int .i64 (h.c 40)),.v (.int .i64 (h.c 41)),.v (.int .i64 (h.c 42)),.v (.int .i64 (h.c 43)),.v (.int .i64 (h.c 44)),.v (.int .i64 (h.c 45)),.v (.int .i64 (h.c 46)),.v (.int .i64 (h.c 47)),.v (.int .i64 (h.c 48)),.v (.int .i64 (h.c 49)),.v (.int .i64 (h.c 50)),.v (.int .i64 (h.c 51)),.v (.int .i64 (h.c 52)),.v (.int .i64 (h.c 53)),.v (.int .i64 (h.c 54)),.v (.int .i64 (h.c 55)),.v (.int .i64 (h.c 56)),.v (.int .i64 (h.c 57)),.v (.int .i64 (h.c 58)),.v (.int .i64 (h.c 59)),.v (.int .i64 (h.c 60)),.v (.int .i64 (h.c 61)),.v (.int .i64 (h.c 62)),.v (.int .i64 (h.c 63)),.v (.int .i64 h.left)]
def Hd.set (h:Hd) (i:Nat) (x:Int):Hd:=⟨fun k=>if k=i then x else h.c k,h.left⟩
structure zOs (M:Mem) (p b1 b2:Nat) (a:Option Addr) (n c:Nat) (me age:Int) (nb:List Int) (st:List (Int×Int)) (m:List (Int×Hd)):Prop where
 self:M.has p T.zpp [.int .i64 me,.int .i64 age,.slice a n c,.map (some b1),.map (some b2)]
 n1:p≠b1
 n2:p≠b2
 n12:b1≠b2
 nbs:SrcOk M 1 a n (nb.map zbw)
 na:∀ q,a=some q→q.block≠b1∧q.block≠b2
 set:MapAt zbw zbw M b1 st
 hrd:MapAt zbw Hd.v M b2 m
def zft (n:Int):Bool:=decide (0≤n)&&decide (n<64)
theorem zDr (n:Int) (M:Mem):CallsM Tryz.prog F.zbc [.int .i64 n] M fun v M'=>v = .bool (zft n)∧M=M':=by
 refine zyE (by simp) ?_;(conv=>whnf);refine brn (fun h=>?_) (fun h=>?_)
 ·(conv=>whnf);exact⟨by first|(simp_all [zft];done)|(simp_all [zft];omega),rfl⟩
 ·(conv=>whnf);exact⟨by first|(simp_all [zft];done)|(simp_all [zft];omega),rfl⟩
variable {M:Mem} {p b1 b2:Nat} {a:Option Addr} {n c:Nat} {me age:Int} {nb:List Int} {st:List (Int×Int)} {m:List (Int×Hd)}
end
section
@[reducible] def one (b:Nat):Nat→Prop:=fun x=>x=b
variable {M:Mem} {p b1 b2:Nat} {a:Option Addr} {n c:Nat} {me age:Int} {nb:List Int} {st:List (Int×Int)} {m:List (Int×Hd)}
def ztE (me:Int):Int→List Int→Bool
 | _,[]=>true
 | last,x::r=>(zft x && !decide (x=me) && !decide (x≤last))&&ztE me x r
def zob (me:Int) (nb:List Int) (age:Int):Int:=if zft me && !decide (age<1) && !decide (64<age) then (if ztE me (-1) nb then 0 else 2) else 1
theorem zNM (me age:Int) (a:Option Addr) (n c:Nat) (nb:List Int) (hs:SrcOk M 1 a n (nb.map zbw)) (hn:n≤4194304) :
  CallsM Tryz.prog F.zeg [.int .i64 me,.slice a n c,.int .i64 age] M fun v M'=>
   (zob me nb age≠0∧v = .tuple #[.pointer none,.int .i64 (zob me nb age)]∧M'=M) ∨
   (zob me nb age=0∧∃ p b1 b2 a' c',v = .tuple #[ptr p,.int .i64 0]∧M p=none∧M b1=none∧M b2=none∧(∀ q,a'=some q→M q.block=none)∧M.le M'∧zOs M' p b1 b2 a' n c' me age nb [] []):=by
 refine zzY (by simp) ?_;have hl:=hs.maplen
 (conv=>whnf);refine(zDr me M).mono ?_;rintro v _ ⟨rfl,rfl⟩;have e1:(zft me && !decide (age<1) && !decide (64<age))=false→zob me nb age=1:=fun h=>by simp only[zob,h];rfl
 (conv=>whnf);refine brn (fun h=>?_) (fun h=>?_)
 ·have e:=e1 (by simp at h;simp[h]);(conv=>whnf)
  exact .inl ⟨by rw[e];decide,by rw[e],rfl⟩
 (conv=>whnf);refine brn (fun h1=>?_) (fun h1=>?_)
 ·have e:=e1 (by simp at h1;simp[h1]);(conv=>whnf)
  exact .inl ⟨by rw[e];decide,by rw[e],rfl⟩
 (conv=>whnf);refine brn (fun h2=>?_) (fun h2=>?_)
 ·have e:=e1 (by simp at h2;simp[h2]);(conv=>whnf)
  exact .inl ⟨by rw[e];decide,by rw[e],rfl⟩
 have e2:zob me nb age=if ztE me (-1) nb then 0 else 2:=by
  simp only[Bool.not_eq_false'] at h;simp only[zob,h,h1,h2];rfl
 (conv=>whnf)
 refine ztL (σ:=Nat×Int) [24,8] (fun q=>[(24,.int .i64 q.1),(8,.int .i64 q.2)]) (fun|⟨i,last⟩=>i≤n∧ztE me (-1) nb=ztE me last (nb.drop i)) (fun q=>n - q.1) ⟨0, -1⟩
  ⟨by omega,rfl⟩ zS ?_
 rintro ⟨i,last⟩ ⟨hi,hok⟩;(conv=>whnf);refine brn (fun g=>?_) (fun g=>?_)
 ·have hi':i<n:=by have:=Zd0 g;dsimp only at this;omega
  obtain⟨hlt,b,o,rfl,hrow⟩:=hs.at (i:=i) hi';rw[List.drop_eq_getElem_cons hlt,ztE] at hok;generalize nb[i]=y at *;have bad:(zft y && !decide (y=me) && !decide (y≤last))=false→zob me nb age=2:=fun hb=>by rw[e2,hok,hb];rfl
  (conv=>whnf);refine ob (by dsimp only;omega) ?_;(conv=>whnf);refine on hrow ?_;(conv=>whnf);refine(zDr y M).mono ?_;rintro v _ ⟨rfl,rfl⟩;(conv=>whnf);refine brn (fun g1=>?_) (fun g1=>?_)
  ·have e:=bad (by simp at g1;simp[g1]);(conv=>whnf)
   exact .inl ⟨by rw[e];decide,by rw[e],rfl⟩
  (conv=>whnf);refine brn (fun g2=>?_) (fun g2=>?_)
  ·have e:=bad (by simp at g2;simp[g2]);(conv=>whnf)
   exact .inl ⟨by rw[e];decide,by rw[e],rfl⟩
  (conv=>whnf);refine brn (fun g3=>?_) (fun g3=>?_)
  ·have e:=bad (by simp at g3;simp[g3]);(conv=>whnf)
   exact .inl ⟨by rw[e];decide,by rw[e],rfl⟩
  (conv=>whnf);refine obr (zm (by dsimp only;omega)) ?_;(conv=>whnf)
  refine⟨⟨i+1,y⟩,⟨by omega,?_⟩,by dsimp only;omega,zS⟩;rw[hok];simp only[Bool.not_eq_false'] at g1;simp only[g1,g2,g3];rfl
 ·have hi':i=n:=by have:=Zd1 g;dsimp only at this;omega
  subst hi';rw[List.drop_of_length_le (by omega)] at hok;have e0:zob me nb age=0:=by rw[e2,hok];rfl
  (conv=>whnf);refine new (fun b0 hb0=>?_);replace hb0:M b0=none:=hb0;have hN:NewSl M T.int 1 _ 0 0 (([]:List Int).map zbw) _:=NewSl.lit hb0 T.int 1 0 [] rfl
  obtain⟨M1,hM1⟩:∃ M1,M1=M.setCells b0 T.int []:=⟨_,rfl⟩
  rw[←hM1] at hN;(conv=>whnf)
  erw [←hM1];(conv=>whnf);refine zkt (hs.le hN.le) ?_;(conv=>whnf);refine zOH M _ hN (by omega) (by simp[maxLen];omega) (by simp[Value.oneCell']) fun a2 c2 M2 hN2=>?_
  rw[List.map_nil,List.nil_append,Nat.zero_add] at hN2;(conv=>whnf);refine new (fun b1 hb1=>?_);replace hb1:M2 b1=none:=hb1;(conv=>whnf);refine new (fun b2 hb2=>?_);replace hb2:(M2.upd b1 (.map #[] 0)) b2=none:=hb2;have h21:b2≠b1:=fun e=>by subst e;rw[Mem.upd_same] at hb2;cases hb2
  rw[Mem.upd_ne _ _ h21] at hb2;(conv=>whnf);refine new (fun p hp=>?_);replace hp:((M2.upd b1 (.map #[] 0)).upd b2 (.map #[] 0)) p=none:=hp;have hp2:p≠b2:=fun e=>by subst e;rw[Mem.upd_same] at hp;cases hp
  rw[Mem.upd_ne _ _ hp2] at hp;have hp1:p≠b1:=fun e=>by subst e;rw[Mem.upd_same] at hp;cases hp
  rw[Mem.upd_ne _ _ hp1] at hp;(conv=>whnf)
  have none':∀ x,M2 x=none→M x=none:=fun x hx=>by
   cases hM:M x with
   | none=>rfl
   | some o=>rw[hN2.le _ _ hM] at hx;cases hx
  have hle:M2.le (((M2.upd b1 (.map #[] 0)).upd b2 (.map #[] 0)).setCells p T.zpp [.int .i64 me,.int .i64 age,.slice a2 i c2,.map (some b1),.map (some b2)]):=
   Mem.le_trans (Mem.le_upd hb1) (Mem.le_trans (Mem.le_upd (by rw[Mem.upd_ne _ _ h21];exact hb2)) (Mem.le_setCells (by rw[Mem.upd_ne _ _ hp2,Mem.upd_ne _ _ hp1];exact hp)))
  rw[Nat.zero_add];refine .inr ⟨e0,p,b1,b2,a2,c2,rfl,none' _ hp,none' _ hb1,none' _ hb2,fun q hq=>(hN2.block hq).1,Mem.le_trans hN2.le hle,?_⟩;refine⟨Mem.has_setCells,hp1,hp2,Ne.symm h21,hN2.src.le hle,fun q hq=>?_,?_,?_⟩
  ·obtain⟨_,cs,hh⟩:=hN2.block hq;exact⟨fun e=>(by rw[e] at hh;unfold Mem.has at hh;rw[hb1] at hh;cases hh),fun e=>(by rw[e] at hh;unfold Mem.has at hh;rw[hb2] at hh;cases hh)⟩
  ·refine(MapAt.new M2 b1).mono fun o ho=>?_
   unfold Mem.setCells;rw[Mem.upd_ne _ _ (Ne.symm hp1),Mem.upd_ne _ _ (Ne.symm h21)];exact ho
  ·refine(MapAt.new (M2.upd b1 (.map #[] 0)) b2).mono fun o ho=>?_
   unfold Mem.setCells;rw[Mem.upd_ne _ _ (Ne.symm hp2)];exact ho
end
end Go.Proofs.YtpnhjkiligohnaaGreatDoor
