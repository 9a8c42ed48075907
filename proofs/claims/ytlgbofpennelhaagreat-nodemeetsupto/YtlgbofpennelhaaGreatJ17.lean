/- Part. -/
import Derived.Test.YtlgbofpennelhaaGreatJ16
set_option linter.all false
set_option maxHeartbeats 0
namespace Go.Proofs.YtlgbofpennelhaaGreat
open Go Go.Vm
attribute [local irreducible] Brn Ob Grow CallsM inR zI zF Mem.row Mem.cells Mem.setCells Mem.upd Go.Vm.Own zZ zaj zam zO New SrcOk subA NewSl Mem.textAt Mem.mapAt Mem.iterAt zC zB Wr NewEls Elems
set_option maxRecDepth 10000
variable {A M M':Mem} {c p db:Nat} {N:Int} {h:Hd} {des:FsT} {X:StW} {D:zf} {w:CuW} {H:CuH} {C:CuR}
theorem zEM (l:List UInt8):(zay l).length≤l.length:=by
 obtain⟨-, h2,h3⟩:=zou l.length l (Yd _)
 have key:∀ ps:List (List UInt8),ps.length≤zah ps:=fun ps=>by
  induction ps with
  | nil=>simp[zah]
  | cons q r ih=>simp only[zah,Yq,Ybb,Ym] at ih ⊢; omega
 exact Yz (key _) h3
theorem zCU (h:InvD D) (s:ByteArray):(bl (zao D s).1).length≤1048576:=by
 unfold zao;split
 ·show (0:Nat)≤_;decide
 ·rename_i g;have h1:=(zcl (by simpa using g)).2
  have:=(zci h.sort h1).2;have hu:=h.used
  rw[zbP,all_size];omega
theorem zoz:∀ {f:Nat} {D:zf} {next last:Int} {all:List (List UInt8)},InvD D→(zab f D next last all).2.2.2.1.length≤all.length+f*1048576
 | 0,_,_,_,_,_=>by rw[zab];dsimp only;omega
 | f+1,D,next,last,all,h=>by
  rw[zab];have h1:=zEM (bl (zao D (zb next)).1)
  have h2:=zCU h (zb next);have h4:(f+1)*1048576=f*1048576+1048576:=by omega
  split
  ·simp
  split
  ·simp
  split
  ·grind
  ·have h3:=zoz (f:=f) (next:=next+1) (last:=next) (all:=all++zay (bl (zao D (zb next)).1)) h;rw[Yi] at h3;omega
theorem znl:∀ {ks:List Int} {D:zf},InvD D→InvD (removeAll D ks).1
 | [],_,h=>h
 | k::r,D,h=>by
  rw[removeAll];split
  ·exact zez h _
  ·exact znl (zez h _)
theorem zsi (h:InvD D) (w:CuW) (seg:Int):(zaT D w seg).2.2.1.length≤104857600000:=by
 unfold zaT;split
 ·simp
 unfold zbI;dsimp only;have h1:=zoz (f:=(100000 - (L0 (firstC w) seg).first).toNat) (next:=(L0 (firstC w) seg).first) (last:=(L0 (firstC w) seg).last) (all:=[]) (znl (ks:=za7 D fun k=>decide (k<(L0 (firstC w) seg).first)) h)
 have h2:(L0 (firstC w) seg).first=firstC w:=rfl;have h3:1≤firstC w:=by unfold firstC;omega
 have h4:(100000 - (L0 (firstC w) seg).first).toNat≤99999:=by rw[h2];omega
 have h5:=Ybr 1048576 h4;simp only[Yar,Yap] at h1;split
 ·simp
 split
 ·simp
 ·grind
def Ld (D:zf) (me qh qb qg:Int):Option (Int×StW)→Prop
 | none=>zgC D=[]
 | some (k,X)=>¬(k<1∨99999<k)∧(∃ ks,zgC D=ks++[k])∧zIV D me qh qb qg k X
def ldD (D:zf):Option (Int×StW)→zf×Int
 | none=>(D,0)
 | some (k,_)=>zJV D k
def ldW:Option (Int×StW)→CuW
 | none=>⟨0,false,false⟩
 | some (k,_)=>⟨k,false,false⟩
def ldX (me qh qb qg:Int):Option (Int×StW)→StW
 | none=>⟨zli me qh qb qg,[]⟩
 | some (_,X)=>X
def zfU (D:zf):CuR:=⟨⟨zli 0 0 0 0,[]⟩,D,L0 0 0,⟨0,false,false⟩⟩
def zoY (D:zf) (me qh qb qg seg:Int) (ld:Option (Int×StW)):CuR×Int:=
 if (ldD D ld).2≠0 then (zfU (ldD D ld).1,(ldD D ld).2)
 else if zdY (ldX me qh qb qg ld) (ldD D ld).1 (ldW ld) seg≠0 then (zfU (zaT (ldD D ld).1 (ldW ld) seg).1,zdY (ldX me qh qb qg ld) (ldD D ld).1 (ldW ld) seg)
 else zkH ⟨(zdz (ldX me qh qb qg ld) (zaT (ldD D ld).1 (ldW ld) seg).2.2.1).1,(zaT (ldD D ld).1 (ldW ld) seg).1,(zaT (ldD D ld).1 (ldW ld) seg).2.1,ldW ld⟩
instance (me qh qb qg:Int):Decidable (zcN me qh qb qg):=by unfold zcN;infer_instance
def za1 (D:zf) (me qh qb qg seg:Int) (ld:Option (Int×StW)):CuR×Int:=
 if zcN me qh qb qg then (zfU D,1) else if seg<16∨1048576<seg then (zfU D,1) else if D.down=true then (zfU D,9)
 else if (zbE D).2≠0 then (zfU (zbE D).1,(zbE D).2)
 else zoY (zbE D).1 me qh qb qg seg ld
def zIX (A M':Mem) (p:Nat) (r:CuR×Int) (v:Value):Prop:=
 (r.2≠0∧v = .tuple #[.pointer none,.int .i64 r.2]∧NamesC r.1.D∧∃ db' des',FreshD A M' p db' r.1.D des') ∨
 (r.2=0∧∃ c H,v = .tuple #[ptr c,.int .i64 0]∧CuAt A M' c p 104857600300 H r.1)
theorem zCV (h1:CuPre A M c p db N h des X D w):CallsM Tryz.prog 82 [ptr c] M fun v M'=>∃ es',v = .int .i64 (zbE D).2∧CuPre A M' c p db N h es' X (zbE D).1 w:=by
 refine zjP oS ?_;refine zM (zIE h1.self rfl h1.disk ⟨#[116]⟩) ?_;rintro v M1 ⟨rfl,hle1⟩;have p1:=h1.to hle1
 unfold zbE;cases ha:D.l.any fun f=>decide (f.name=⟨#[116]⟩)
 ·refine zR ?_;rw[if_neg oD];exact⟨des,rfl,p1⟩
 ·refine zL (p1.self) ?_;refine(zAN p1 (by show (1:Nat)≤_;decide)).mono ?_;rintro v M2 ⟨es2,rfl,p2, -⟩;refine zR ?_;rw[if_pos rfl];exact⟨es2,rfl,p2⟩
theorem CuPre.new (hs:FreshW A M h X) (hd:FreshD A M p db D des) (hnm:NamesC D) (hj:∀ y,hB h y→¬zav p db des y) (hc:M c=none) (hcm:h.came≤N) (w:CuW):CuPre A (M.setCells c 153 (zhH h.p p (.pointer none) w)) c p db N h des X D w:=by
 have hle:M.le (M.setCells c 153 (zhH h.p p (.pointer none) w)):=Yw hc;refine⟨hs.to hle,hd.to hle,Yg,?_,hj,fun hb=>hs.some hb hc,fun hb=>hd.at'.full hb hc,hnm,hcm⟩;cases e:A c with
 | none=>rfl
 | some o=>rw[hd.le _ _ e] at hc;cases hc
end Go.Proofs.YtlgbofpennelhaaGreat
namespace Go.Proofs.YtlgbofpennelhaaGreat
open Go Go.Vm Go.Proofs.Tryz
attribute [local irreducible] Brn Ob Grow CallsM inR zI zF Mem.row Mem.cells Mem.setCells Mem.upd Go.Vm.Own zZ zaj zam zO New SrcOk subA NewSl Mem.textAt Mem.mapAt Mem.iterAt zC zB Wr NewEls Elems zc9 zeK zfF zef zeg
set_option maxRecDepth 10000
section
variable {B0 M0 A B M B' M':Mem} {S0:Nat→Prop} {ps:List Pt} {c p:Nat} {N:Int} {H:CuH} {C:CuR}
def zkI (C:CuR) (i:IdT):Bool:=decide (i.d=C.X.S.self)&&zft (zcJ C.X.sn) i.o i.d i.e i.c
theorem zIY (h:CuAt A M c p N H C) (i:IdT):CallsM prog 277 [ptr c,idA i] M fun v M'=>v = .bool (zkI C i)∧M.le M':=by
 refine zkk oS ?_;refine zL (h.self) ?_;refine zJ (zfc i.o i.d i.e i.c M) ?_;refine zU ?_;refine brn (fun g=>?_) (fun g=>?_)
 ·have g1:idErr i.o i.d i.e i.c=0:=Zd0 g;refine zL (h.self) ?_;refine(zCM h.st.st i).mono ?_;rintro v M1 ⟨rfl,h1⟩;refine zR ?_;exact⟨by unfold zkI;rw[h.st.seen.has],h1⟩
 ·have g1:¬idErr i.o i.d i.e i.c=0:=Zd1 g;refine zR ?_;exact⟨by unfold zkI zft;rw[decide_eq_false g1];simp,Ya _⟩
section
variable {i:Nat}
theorem zoZ (h:At B0 M0 S0 B M ps) (hi:ps[i]? = some (zdx c p N H C)):CuAt (M.minus (cuB c p H)) M c p N H C∧B.le (M.minus (cuB c p H)):=by
 have h0:CuAt B M c p N H C:=h.part i hi;exact h0.base
theorem zya (h:At B0 M0 S0 B M ps) (i:Nat) (hi:ps[i]? = some (zdx c p N H C)) (hN:N≤4611686018427387904) (d:Int) {a:Option Addr} {cc:Nat} {l:List UInt8} (hl:SrcOk B 1 a l.length (l.map zc)) (hn:l.length≤1048576) :
  CallsM prog 34 [ptr c,.int .i64 d,.slice a l.length cc] M fun v M'=>∃ H',v = .tuple #[idA (zbm C d l).2.1,.int .i64 (zbm C d l).2.2]∧At B0 M0 S0 B M' (rpl ps i [zdx c p (N+1) H' (zbm C d l).1]):=by
 obtain⟨h0,hB⟩:=zoZ h hi;refine(zEI h0 hN d (hl.le hB) hn).mono ?_;rintro v M' ⟨H',rfl,h1⟩;exact⟨H',rfl,At.cust h i hi h1⟩
theorem zCW (h:At B0 M0 S0 B M ps) (i:Nat) (hi:ps[i]? = some (zdx c p N H C)) (hN:N≤4611686018427387904) (d:IdT) {a:Option Addr} {cc:Nat} {l:List UInt8} (hl:SrcOk B 1 a l.length (l.map zc)) (hn:l.length≤1048576) :
  CallsM prog 280 [ptr c,.agg #[.int .i64 d.o,.int .i64 d.d,.int .i64 d.e,.int .i64 d.c,.slice a l.length cc]] M fun v M'=>∃ H',v = .int .i64 (zad C 2 d l true).2∧At B0 M0 S0 B M' (rpl ps i [zdx c p (N+1) H' (zad C 2 d l true).1]):=by
 obtain⟨h0,hB⟩:=zoZ h hi;refine(zIQ h0 hN d (hl.le hB) hn).mono ?_;rintro v M' ⟨H',rfl,h1⟩;exact⟨H',rfl,At.cust h i hi h1⟩
theorem zwI (h:At B0 M0 S0 B M ps) (i:Nat) (hi:ps[i]? = some (zdx c p N H C)) (hN:N≤4611686018427387904) (d:IdT) :
  CallsM prog 196 [ptr c,idA d] M fun v M'=>∃ H',v = .int .i64 (zad C 3 d [] false).2∧At B0 M0 S0 B M' (rpl ps i [zdx c p (N+1) H' (zad C 3 d [] false).1]):=by
 obtain⟨h0,hB⟩:=zoZ h hi;refine(zCK h0 hN d).mono ?_;rintro v M' ⟨H',rfl,h1⟩;exact⟨H',rfl,At.cust h i hi h1⟩
theorem zwJ (h:At B0 M0 S0 B M ps) (i:Nat) (hi:ps[i]? = some (zdx c p N H C)) (hN:N≤4611686018427387904) (d:IdT) :
  CallsM prog 278 [ptr c,idA d] M fun v M'=>∃ H',v = .int .i64 (zad C 4 d [] true).2∧At B0 M0 S0 B M' (rpl ps i [zdx c p (N+1) H' (zad C 4 d [] true).1]):=by
 obtain⟨h0,hB⟩:=zoZ h hi;refine(zCL h0 hN d).mono ?_;rintro v M' ⟨H',rfl,h1⟩;exact⟨H',rfl,At.cust h i hi h1⟩
@[reducible] def zqW (m:zcF):zcO:=⟨m.id,m.p⟩
theorem zCX (h:At B0 M0 S0 B M ps) (hc:CuAt B M c p N H C) (hN:N≤4611686018427387904) :
  CallsM prog 136 [ptr c] M fun v M'=>∃ a cc,v = .slice a C.X.S.l.length cc∧Elems (newB B M M') 5 a C.X.S.l.length (MsgR (newB B M M')) (C.X.S.l.map zqW)∧At B0 M0 S0 (newB B M M') M' ps:=by
 refine(zIR hc hN).mono ?_;rintro v M' ⟨a,n,cc,ms,rfl,hH,hm⟩;have hl:=hH.len
 have hl2:C.X.S.l.length=n:=by rw[←hm,Y9,hl]
 subst hl2;refine⟨a,cc,rfl,?_,h.upN hH.row.le⟩;unfold Elems;refine⟨ms.map zAq,?_,by simp[hl],by simp,fun cs hcs=>?_,fun j cs y hj hy=>?_⟩
 ·rw[←List.flatMap_def];exact zc5 hH.row.src fun r hr=>(hH.row.block hr).1
 ·obtain⟨m,_,rfl⟩:=Yj.1 hcs;rfl
 ·rw[Ya7] at hj hy;rw[←hm,Ya7] at hy;cases hq:ms[j]? with
  | none=>simp_all
  | some m=>
   rw[hq] at hj hy;cases hj;cases hy;have hd:=hH.data m (Yao hq)
   refine⟨m.a,m.p.length,m.c,rfl,zc5 hd.src fun r hr=>(hd.block hr).1,?_⟩;have hI:=hc.st.st.inv
   have h2:m.msg∈C.X.S.l:=hm▸Yj.2 ⟨m,Yao hq,rfl⟩;have:=(zdf (hI.msgs _ h2).1).2.2
   dsimp only [MX.msg] at this;omega
end
end
section
variable {B0 M0 B M B' M':Mem} {S0:Nat→Prop}
structure ziX where
 qh:Int
 qb:Int
 qg:Int
 disk:Int
 seg:Int
 win:Int
 timer:Int
 tries:Int
 wait:Int
 delay:Int
structure NodX where
 me:Int
 set:ziX
 C:CuR
 nb:List Int
 sd:Int→SideR
 tab:zg2
 next:Int
 dsk:zd8
 told:List zcO
 ticks:Int
 bad:Int
structure NP where
 n:Nat
 ms:Nat
 m:List (Int×Nat)
 c:Nat
 p:Nat
 N:Int
 H:CuH
 tx:TX
 dx:DkX
 K:Nat
 ta:Option Addr
 tc:Nat
 sp:Int→SP
@[reducible] def zmR (b:Nat):Value:=ptr b
@[reducible] def zdF (P:NP) (X:NodX):List Value:=[.int .i64 X.me,.int .i64 X.set.qh,.int .i64 X.set.qb,.int .i64 X.set.qg,.int .i64 X.set.disk,.int .i64 X.set.seg,.int .i64 X.set.win,.int .i64 X.set.timer,.int .i64 X.set.tries,.int .i64 X.set.wait,.int .i64 X.set.delay,ptr P.c,.map (some P.ms),ptr P.tx.p,ptr P.dx.p,.slice P.ta X.told.length P.tc,.int .i64 X.ticks,.int .i64 X.bad]
def MsgsB (B:Mem) (L:List Value) (l:List zcO):Prop:=∃ css:List (List Value),L=css.flatten∧css.length=l.length∧(∀ cs∈css,cs.length=5)∧∀ (i:Nat) cs x,css[i]? = some cs→l[i]? = some x→MsgR B cs x
theorem MsgsB.le {B B':Mem} {L:List Value} {l:List zcO} (h:MsgsB B L l) (hle:B.le B'):MsgsB B' L l:=by
 obtain⟨css,h1,h2,h3,h4⟩:=h;exact⟨css,h1,h2,h3,fun i cs x hi hx=>(h4 i cs x hi hx).le hle⟩
theorem MsgsB.nil (B:Mem):MsgsB B [] []:=⟨[],rfl,rfl,by simp,by simp⟩
def zmS (a:Option Addr) (c:Nat) (l:List zcO):Pt:=zJu 82 5 MsgsB (fun h hle=>h.le hle) a l.length c l
@[reducible] def zgT (P:NP) (X:NodX):List Pt:=[zby P.n 96 (zdF P X),zgn zi zmR P.ms P.m,zdx P.c P.p P.N P.H X.C,zlm P.tx X.me 64 X.nb X.tab,zdy P.dx X.set.wait X.next P.K X.dsk,zmS P.ta P.tc X.told]
@[reducible] def zfV (P:NP) (X:NodX):List Pt:=X.nb.map fun k=>zeF (P.sp k) (X.sd k)
structure NodI (P:NP) (X:NodX):Prop where
 nbs:X.nb.Pairwise (· < ·)
 len:X.nb.length≤64
 key:(P.m.map (·.1)).Perm X.nb
 val:∀ q∈P.m,q.2=(P.sp q.1).s
structure NodeAt (B0 M0:Mem) (S0:Nat→Prop) (B M:Mem) (P:NP) (X:NodX) (R:List Pt):Prop where
 at':At B0 M0 S0 B M ((zgT P X++zfV P X)++R)
 inv:NodI P X
section
variable {P:NP} {X:NodX}
theorem NodI.nodup (h:NodI P X):X.nb.Nodup:=h.nbs.imp fun {a b} hab e=>by omega
theorem NodI.get (h:NodI P X) {k:Int} (hk:k∈X.nb):ze P.m k=some (P.sp k).s:=by
 have h1:=h.key.mem_iff.2 hk;obtain⟨q,hq,rfl⟩:=Yj.1 h1;rw[←h.val q hq];exact zbK (h.key.nodup_iff.2 h.nodup) (x:=q.2) hq
theorem NodI.get_no (h:NodI P X) {k:Int} (hk:k∉X.nb):ze P.m k=none:=by
 cases ha:ze P.m k with
 | none=>rfl
 | some b=>exact absurd (h.key.mem_iff.1 (Yj.2 ⟨_,zG ha,rfl⟩)) hk
theorem zCY {nb l:List Int} (hs:nb.Pairwise (· < ·)) (hp:l.Perm nb):zdr l=nb:=
 Ydu (le:=(· ≤ ·)) (fun x y _ _ h1 h2=>Yd8 h1 h2) (zh5 _) (hs.imp (S:=fun (a b:Int)=>a≤b) fun {a b} h=>by omega) ((zhw _).trans hp)
end
end
end Go.Proofs.YtlgbofpennelhaaGreat
namespace Go.Proofs.YtlgbofpennelhaaGreat
open Go Go.Vm
attribute [local irreducible] Brn Ob Grow CallsM inR zI zF Mem.row Mem.cells Mem.setCells Mem.upd Go.Vm.Own zZ zaj zam zO New SrcOk subA NewSl Mem.textAt Mem.mapAt Mem.iterAt zC zB Wr NewEls Elems
set_option maxRecDepth 10000
variable {M M':Mem} {P:NP} {X:NodX}
theorem zo0 {x:Nat} (h:M.has x 96 (zdF P X)) (hm:MapAt zi zmR M P.ms P.m) (hI:NodI P X) :
  CallsM Tryz.prog 59 [ptr x] M fun v M'=>∃ a' c',v = .slice a' X.nb.length c'∧NewSl M 3 1 a' X.nb.length c' (X.nb.map zi) M':=by
 have hml:P.m.length=X.nb.length:=by have:=hI.key.length_eq;simpa using this
 have hn:=hI.len;refine zo9 oS ?_;refine zK h ?_;refine hm.range fun q bi hbi hIt=>?_
 replace hbi:M bi=none:=hbi
 refine zak (σ:=Mem×Option Addr×Nat×List Int×List (Int×Nat)) [3] (fun x=>[(3,.slice x.2.1 x.2.2.2.1.length x.2.2.1)]) (fun _=>[]) (fun x=>x.1)
  (fun|⟨M1,a',c',ks,todo⟩=>M.le M1∧Iter zi zmR M1 bi P.ms P.m todo∧NewSl M 3 1 a' ks.length c' (ks.map zi) M1∧(ks++todo.map (·.1)).Perm (P.m.map (·.1))) (fun x=>x.2.2.2.2.length) ⟨_,none,0,[],P.m⟩
  ⟨Ya8 hbi,hIt,(Yaw M 3 1).up (Ya8 hbi),by simp⟩ zS ?_
 rintro ⟨M1,a',c',ks,todo⟩ ⟨hle,hI1,hN,hp⟩;have hlen:=hp.length_eq
 simp only[Yi,Y9,hml] at hlen;refine hI1.next (fun h0=>?_) (fun i k todo' o' hperm hI2 hent=>?_)
 ·subst h0;simp only[Ybz,Yt,Yar,Ybx] at hp hlen;refine zM (zyS hN.wr oM) ?_;rintro v M2 ⟨rfl,hw,hk⟩;refine zR ?_;rw[zCY hI.nbs (hp.trans hI.key)] at hw;refine⟨a',c',by rw[hlen],?_⟩;rw[hlen] at hw hN;exact hN.ofWr hw hk rfl
 ·have hne:∀ r,a'=some r→r.block≠bi:=fun r hr=>by obtain⟨_,cs,hh⟩:=hN.block hr;exact(hI1.nb hh).1
  have hk:=Yad (S:=fun y=>y=bi) M1 (b:=bi) o' rfl;have hN2:=hN.keep hk (fun b hb=>by simp_all) fun r hr hb=>hne r hr hb
  obtain⟨M2,hM2⟩:=oI (M1.upd bi o');rw[←hM2] at hI2 hent hN2;have hpl:=hperm.length_eq
  simp only[Ym] at hpl;erw [←hM2];refine zR ?_;refine on hent ?_;refine zR ?_;refine ziQ M _ hN2 (by grind) (by simp[maxLen];omega) oC fun a6 c6 M6 hN6 hk6=>?_
  refine⟨⟨M6,a6,c6,ks++[i],todo'⟩,⟨hN6.le,?_,by simpa using hN6,?_⟩,by simp_all,by simp only[Yi,Ym,Yar];exact zS⟩
  ·refine hI2.keep hk6 ?_ ?_
   ·rintro ⟨r,hr,e⟩;obtain⟨_,cs,hh⟩:=hN2.block hr;exact(hI2.nb hh).1 e
   ·rintro ⟨r,hr,e⟩;obtain⟨_,cs,hh⟩:=hN2.block hr;exact(hI2.nb hh).2 e
  ·grind
end Go.Proofs.YtlgbofpennelhaaGreat
namespace Go.Proofs.YtlgbofpennelhaaGreat
open Go Go.Vm Go.Proofs.Tryz
attribute [local irreducible] Brn Ob Grow CallsM inR zI zF Mem.row Mem.cells Mem.setCells Mem.upd Go.Vm.Own zZ zaj zam zO New SrcOk subA NewSl Mem.textAt Mem.mapAt Mem.iterAt zC zB Wr NewEls Elems zc9 zeK zfF zef zeg
set_option maxRecDepth 10000
section
variable {B0 M0 B M B' M':Mem} {S0:Nat→Prop} {R:List Pt}
theorem zy2 {f g:Int→Pt} {k:Int} (hg:∀ j,j≠k→g j=f j):∀ {nb:List Int} {i:Nat},nb.Nodup→nb[i]? = some k→rpl (nb.map f) i [g k]=nb.map g
 | [],_,_,h=>by cases h
 | a::r,0,hn,h=>by
  obtain rfl:a=k:=by simp_all
  have h2:=(Yau.1 hn).1;show [g a]++r.map f=g a::r.map g
  rw[List.singleton_append,Yav fun j hj=>(hg j fun e=>h2 (e▸hj)).symm]
 | a::r,i+1,hn,h=>by
  have h2:=Yau.1 hn;have h3:r[i]? = some k:=h
  show f a::rpl (r.map f) i [g k]=g a::r.map g;rw[zy2 hg h2.2 h3,hg a fun e=>h2.1 (e▸Yao h3)]
theorem zy3:∀ (l r:List Pt) (i:Nat) (q:List Pt),rpl (l++r) (l.length+i) q=l++rpl r i q
 | [],r,i,q=>by simp
 | a::l,r,i,q=>by
  rw[show (a::l).length+i=(l.length+i)+1 by simp;omega];show a::rpl (l++r) (l.length+i) q=a::(l++rpl r i q)
  rw[zy3 l r i q]
theorem zwK:∀ {l r:List Pt} {i:Nat} {q:List Pt},i<l.length→rpl (l++r) i q=rpl l i q++r
 | [],_,_,_,h=>by simp at h
 | a::l,r,0,q,_=>by simp
 | a::l,r,i+1,q,h=>by
  show a::rpl (l++r) i q=a::(rpl l i q++r);rw[zwK (by simpa using h)]
def NodX.setSd (X:NodX) (k:Int) (s:SideR):NodX:={ X with sd:=fun j=>if j=k then s else X.sd j }
def NP.setSp (P:NP) (k:Int) (s:SP):NP:={ P with sp:=fun j=>if j=k then s else P.sp j }
section
variable {P:NP} {X:NodX} {k:Int}
theorem zsj (h:NodeAt B0 M0 S0 B M P X R) (hk:k∈X.nb):∃ i,X.nb[i]? = some k∧((zgT P X++zfV P X)++R)[(zgT P X).length+i]? = some (zeF (P.sp k) (X.sd k)):=by
 obtain⟨i,hi,e⟩:=Ybm hk;refine⟨i,by rw[Yb hi,e],?_⟩;rw[Yr,Yan (Yd4 _ _),Nat.add_sub_cancel_left,Yag (by simpa[zfV] using hi)];simp[zfV,Ya7,Yb hi,e]
@[reducible] def sdD (P:NP) (X:NodX) (k:Int):Nat→Prop:=zc4 (zeV (P.sp k) (X.sd k))
theorem NodeAt.opn (h:NodeAt B0 M0 S0 B M P X R) (hk:k∈X.nb):At B M (sdD P X k) B M (zeV (P.sp k) (X.sd k)):=by
 obtain⟨i,h1,h2⟩:=zsj h hk;exact Sep.at (h.at'.part _ h2)
theorem NodeAt.cls (h:NodeAt B0 M0 S0 B M P X R) (hk:k∈X.nb) {x':SP} {s':SideR} (h':At B M (sdD P X k) B' M' (zeV x' s')) (hs:x'.s=(P.sp k).s):NodeAt B0 M0 S0 B' M' (P.setSp k x') (X.setSd k s') R:=by
 obtain⟨i,h1,h2⟩:=zsj h hk;have h3:At B M (zeF (P.sp k) (X.sd k)).d B' M' [zeF x' s']:=At.pack h'
 have h4:=h.at'.call _ h2 h3;rw[Yr,zy3,zwK (by grind),←Yr] at h4;refine⟨?_,⟨h.inv.nbs,h.inv.len,h.inv.key,fun q hq=>?_⟩⟩
 ·have e:zeF x' s'=(fun j=>zeF ((P.setSp k x').sp j) ((X.setSd k s').sd j)) k:=by simp[NP.setSp,NodX.setSd]
  rw[e,zy2 (f:=fun j=>zeF (P.sp j) (X.sd j)) (g:=fun j=>zeF ((P.setSp k x').sp j) ((X.setSd k s').sd j)) (fun j hj=>by simp[NP.setSp,NodX.setSd,hj]) h.inv.nodup h1] at h4;exact h4
 ·show q.2=(if q.1=k then x' else P.sp q.1).s;split
  ·rename_i e;rw[hs,←e];exact h.inv.val q hq
  ·exact h.inv.val q hq
theorem NodeAt.self (h:NodeAt B0 M0 S0 B M P X R):M.has P.n 96 (zdF P X):=h.at'.cell 0 rfl
theorem NodeAt.map (h:NodeAt B0 M0 S0 B M P X R):MapAt zi zmR M P.ms P.m:=(h.at'.part 1 rfl).1
theorem NodeAt.upN (h:NodeAt B0 M0 S0 B M P X R) (hM:M.le M'):NodeAt B0 M0 S0 (newB B M M') M' P X R:=⟨h.at'.upN hM,h.inv⟩
theorem NodeAt.le (h:NodeAt B0 M0 S0 B M P X R):B.le M:=h.at'.le
theorem NodeAt.up (h:NodeAt B0 M0 S0 B M P X R) (hM:M.le M'):NodeAt B0 M0 S0 B M' P X R:=⟨h.at'.up hM,h.inv⟩
structure NP.same (P P':NP) (dN:Int) (dK:Nat):Prop where
 n:P'.n=P.n
 s:∀ k,(P'.sp k).s=(P.sp k).s
 N:P'.N≤P.N+dN
 K:P'.K≤P.K+dK
 p:P'.p=P.p
theorem NP.same.refl (P:NP) {a:Int} {b:Nat} (ha:0≤a):P.same P a b:=⟨rfl,fun _=>rfl,by omega,by omega,rfl⟩
theorem NP.same.trans {P P' P2:NP} {a b:Int} {c d:Nat} (h:P.same P' a c) (h':P'.same P2 b d):P.same P2 (a+b) (c+d):=⟨h'.n.trans h.n,fun k=>(h'.s k).trans (h.s k),by have:=h.N;have:=h'.N;omega,by have:=h.K;have:=h'.K;omega,h'.p.trans h.p⟩
theorem NP.same.more {P P':NP} {a b:Int} {c d:Nat} (h:P.same P' a c) (hb:a≤b) (hd:c≤d):P.same P' b d:=⟨h.n,h.s,by have:=h.N;omega,by have:=h.K;omega,h.p⟩
theorem NP.same.set (P:NP) (k:Int) {x':SP} (hs:x'.s=(P.sp k).s) {a:Int} {b:Nat} (ha:0≤a):P.same (P.setSp k x') a b:=⟨rfl,fun j=>by show (if j=k then x' else P.sp j).s=_;split;(rename_i e;rw[hs,e]);rfl,by show P.N≤_;omega,by show P.K≤_;omega,rfl⟩
def NTo (B0 M0:Mem) (S0:Nat→Prop) (B M':Mem) (P:NP) (X':NodX) (R:List Pt) (dN:Int) (dK:Nat):Prop:=∃ B' P',B.le B'∧P.same P' dN dK∧NodeAt B0 M0 S0 B' M' P' X' R
theorem NodeAt.to (h:NodeAt B0 M0 S0 B M P X R) {a:Int} {b:Nat} (ha:0≤a):NTo B0 M0 S0 B M P X R a b:=⟨B,P,Ya _,NP.same.refl P ha,h⟩
end
theorem zfW {x:SP} {s:SideR} (h:At B0 M0 S0 B M (zeV x s)):LkAt B M (zoy x.e x.p) B M x.e x.p s.L:=lnkP.opn (h.part 1 rfl)
theorem zHb {x:SP} {s:SideR} {L':za8} (h:At B0 M0 S0 B M (zeV x s)) (h':LkTo B M (zoy x.e x.p) B M' x.e L'):∃ B' p',B.le B'∧At B0 M0 S0 B' M' (zeV { x with p:=p' } { s with L:=L' }):=by
 obtain⟨B',p',h1,h2⟩:=h';exact⟨B',p',h1,h.call 1 rfl h2.cls⟩
section
variable {P:NP} {X:NodX} {k:Int}
theorem NodeAt.lnk (h:NodeAt B0 M0 S0 B M P X R) (hk:k∈X.nb) {L':za8} (h':LkTo B M (zoy (P.sp k).e (P.sp k).p) B M' (P.sp k).e L'):NTo B0 M0 S0 B M' P (X.setSd k { X.sd k with L:=L' }) R 0 0:=by
 obtain⟨B',p',h1,h2⟩:=zHb (h.opn hk) h';exact⟨B',_,h1,NP.same.set P k (x':={ P.sp k with p:=p' }) rfl oM,h.cls hk h2 rfl⟩
theorem NodeAt.scell (h:NodeAt B0 M0 S0 B M P X R) (hk:k∈X.nb):M.has (P.sp k).s 114 (ziI (P.sp k) (X.sd k)):=(h.opn hk).cell 0 rfl
def zbn (X:NodX) (k:Int) (w:Word):NodX×Int:=if w.err≠0 then (X,w.err) else (X.setSd k { X.sd k with L:=zds (X.sd k).L w.bytes },zeQ (X.sd k).L w.bytes)
theorem zEN {w:W} {M:Mem} (hw:w.Ok M) (he:w.err=0):w.bytes.length≤65:=by
 have h:=W.err_zero hw.lenD hw.lenC he;have h1:=hw.lenD
 have h2:=hw.lenC;unfold W.bytes;by_cases hk:w.kind=4
 ·simp_all
 ·rw[if_neg hk]
  have:w.nD≤48:=by
   by_cases h1:w.kind=1
   ·exact(h.2.2.2.1 h1).2
   ·have:=h.2.2.2.2 h1;omega
  simp[two,zX];omega
theorem zed (h:NodeAt B0 M0 S0 B M P X R) (hk:k∈X.nb) (w:Word) {pD pC:Option Addr} {kD kC:Nat} (hw:(w.w pD kD pC kC).Ok M) (ho:(X.sd k).L.out.length+65≤1000000000) :
  CallsM prog 63 [ptr P.n,.int .i64 k,(w.w pD kD pC kC).v] M fun v M'=>v = .int .i64 (zbn X k w).2∧NTo B0 M0 S0 B M' P (zbn X k w).1 R 0 0:=by
 refine zpb oS ?_;refine(zCq (w.w pD kD pC kC) M hw).mono ?_;rintro v M1 (⟨he,rfl,rfl⟩|⟨he,a',c',rfl,hN⟩)
 ·have e:zbn X k w=(X,w.err):=by unfold zbn;exact if_pos he
  refine zR ?_;refine brn_t (by simp_all) ?_;refine zR ?_;rw[e];exact⟨rfl,h.to oM⟩
 ·have e:zbn X k w=(X.setSd k { X.sd k with L:=zds (X.sd k).L w.bytes },zeQ (X.sd k).L w.bytes):=by unfold zbn;exact if_neg (fun h=>h he)
  have h1:=h.up hN.le;refine zW h1.self ?_;refine h1.map.get zcY k (fun g=>?_) (fun y j g=>?_)
  ·rw[h.inv.get hk] at g;cases g
  ·rw[h.inv.get hk] at g;cases g;refine zW ((h1.scell hk)) ?_;refine(zAa (zfW (h1.opn hk)) hN.src ?_ ho).mono ?_
   ·exact Yz (zEN hw he) oD
   rintro v M2 ⟨rfl,h2⟩;refine zR ?_;rw[e];exact⟨rfl,h1.lnk hk h2⟩
end
end
section
variable {B0 M0 B M B' M':Mem} {S0:Nat→Prop} {R:List Pt} {ps:List Pt}
theorem zmT {α:Type} (ps:List α) (p:α):(ps++[p])[ps.length]? = some p:=by simp
theorem splice_one {cs:List Value} {j:Nat} {v:Value} (h:j<cs.length):zd cs j [v]=cs.set j v:=by
 unfold zd;rw[List.set_eq_take_append_cons_drop,if_pos h];simp
theorem zKX (h:At B0 M0 S0 B M ps) (i:Nat) {E:TypeId} {a:Option Addr} {n c:Nat} {L:List Value} (hi:ps[i]? = some (zaB E 1 a n c L)) {j:Nat} (hj:j<n) {v:Value} {k:Mem→Prop}
  (hk:∀ M1,At B0 M0 S0 B M1 (rpl ps i [zaB E 1 a n c (L.set j v)])→k M1):∃ b,a=some ⟨b,0,none⟩∧zc9 M b j 1 [v] k:=by
 have hN:=h.row i hi;have hN':=hN
 rw[newSl_iff] at hN';obtain⟨h0,h4,h5,⟨ha,hc⟩|⟨b,cs,ha,hb,hh,hl,ht⟩⟩:=hN'
 ·omega
 ·refine⟨b,ha,?_⟩
  delta zc9
  refine on hh.cells (ob (by grind) (hk _ ?_));have hd:(zaB E 1 a n c L).d b:=⟨_,ha,rfl⟩
  unfold Mem.setCells;refine At.updO (q:=zaB E 1 a n c (L.set j v)) h i hi hd (fun y hy => .inl hy) ?_;show NewSl B E 1 a n c (L.set j v) _
  rw[newSl_iff];refine⟨le_upd h0 hb,by simp_all,h5,.inr ⟨b,zd cs j [v],ha,hb,(by unfold Mem.has Mem.upd;simp),by simp[zd];omega,?_⟩⟩;have hj2:j<cs.length:=by omega
  rw[splice_one hj2,Ybi,List.take_set,←ht,Ybi]
section
variable {P:NP} {X:NodX} {k:Int}
theorem zJX {E:TypeId} {s bytes n c m:Nat} {a:Option Addr} {L news:List Value} {K:Option Addr→Nat→Mem→Prop} (h:NodeAt B0 M0 S0 B M P X (R++[zaB E s a n c L]))
  (h1:(n+m)*bytes≤140737488355328) (h2:n+m≤maxLen) (h3:∀ u∈news,u.oneCell'=true) (hk:∀ a' c' M1,n+m≤c'→NodeAt B0 M0 S0 B M1 P X (R++[zaB E s a' (n+m) c' (L++news)])→K a' c' M1):zZ E s bytes a n c m news M K:=by
 have h':=h.at';rw[←Yr] at h';refine h'.appV ((zgT P X++zfV P X)++R).length (zmT _ _) h1 h2 h3 fun a' c' M1 hc h5=>hk a' c' M1 hc ⟨?_,h.inv⟩
 rw[zh4,Yr] at h5;exact h5
theorem zJY (h:NodeAt B0 M0 S0 B M P X R) (E:TypeId) (s:Nat):NodeAt B0 M0 S0 B M P X (R++[zaB E s none 0 0 []]):=⟨by rw[←Yr];exact h.at'.row0 E s,h.inv⟩
theorem zF8 {E:TypeId} {s n c:Nat} {a:Option Addr} {L:List Value} (h:NodeAt B0 M0 S0 B M P X (R++[zaB E s a n c L])):∃ B',B.le B'∧SrcOk B' s a n L∧NodeAt B0 M0 S0 B' M P X R:=by
 have h':=h.at';rw[←Yr] at h';obtain⟨B',h1,h2,h3⟩:=h'.cede ((zgT P X++zfV P X)++R).length (zmT _ _);rw[zh4,Yt] at h3;exact⟨B',h1,h2,h3,h.inv⟩
theorem zJZ {E:TypeId} {n c:Nat} {a:Option Addr} {L:List Value} (h:NodeAt B0 M0 S0 B M P X (R++[zaB E 1 a n c L])) {j:Nat} (hj:j<n) {v:Value} {K:Mem→Prop}
  (hk:∀ M1,NodeAt B0 M0 S0 B M1 P X (R++[zaB E 1 a n c (L.set j v)])→K M1):∃ b,a=some ⟨b,0,none⟩∧zc9 M b j 1 [v] K:=by
 have h':=h.at';rw[←Yr] at h';refine zKX h' ((zgT P X++zfV P X)++R).length (zmT _ _) hj fun M1 h5=>hk M1 ⟨?_,h.inv⟩
 rw[zh4,Yr] at h5;exact h5
theorem zIZ {E:TypeId} {n c b:Nat} {L:List Value} (h:NodeAt B0 M0 S0 B M P X (R++[zaB E 1 (some ⟨b,0,none⟩) n c L])) {j o:Nat} (hj:j<n) (ho:o=j) {v:Value} {K:Mem→Prop}
  (hk:∀ M1,NodeAt B0 M0 S0 B M1 P X (R++[zaB E 1 (some ⟨b,0,none⟩) n c (L.set j v)])→K M1):zc9 M b o 1 [v] K:=by
 obtain⟨b',e,h'⟩:=zJZ h hj hk;cases e;rw[ho];exact h'
theorem zJ0 (h:NodeAt B0 M0 S0 B M P X R) {E:TypeId} {s n:Nat} {vs:List Value} {K:Nat→Mem→Prop} (hl:vs.length=n*s) (hk:∀ b M1,NodeAt B0 M0 S0 B M1 P X (R++[zaB E s (some ⟨b,0,none⟩) n n vs])→K b M1):zeK M E vs K:=
 h.at'.newRV hl fun b M1 h1=>hk b M1 ⟨by simp_all,h.inv⟩
def zj6 (X:NodX):List Int:=X.C.X.S.l.foldl (fun v m=>match zcS X.me X.nb X.tab m.id.d with|some k=>v.set m.id.d.toNat k|none=>v) (List.replicate 64 (-1))
def zd9 (X:NodX) (o:zgM):NodX:=
 let r:=zbn X o.to ⟨1,o.n,o.msg.id,o.msg.data,[]⟩
 if r.2≠0 then { r.1 with dsk:=if isF r.1.dsk o.msg.id then zmQ r.1.dsk o.msg.id else r.1.dsk } else r.1
def zet (X:NodX) (up:List Int):PlF:=zfe X.dsk X.next (X.C.X.S.l.map zqW) (zj6 X) up
def zdm (X:NodX) (up:List Int):NodX:=if X.C.X.S.l.length=0 then X else (zet X up).out.foldl zd9 { X with dsk:=(zet X up).f,next:=(zet X up).next }
theorem zui (X:za8) (l:List UInt8):(zds X l).out.length≤X.out.length+65∧(zds X l).inn=X.inn:=by
 unfold zds;split
 ·exact ziD _
 ·simp
theorem zwL (X:NodX) (k:Int) (w:Word):(zbn X k w).1.nb=X.nb:=by unfold zbn;split<;>rfl
theorem zoB (X:NodX) (k:Int) (w:Word) (j:Int):((zbn X k w).1.sd j).L.out.length≤(X.sd j).L.out.length+65∧((zbn X k w).1.sd j).L.inn=(X.sd j).L.inn∧((zbn X k w).1.sd j).out=(X.sd j).out:=by
 unfold zbn;split
 ·simp
 ·unfold NodX.setSd;dsimp only;split
  ·rename_i e;rw[e];exact⟨(zui _ _).1,(zui _ _).2,rfl⟩
  ·simp
theorem zuj (X:NodX) (o:zgM) (j:Int):((zd9 X o).sd j).L.out.length≤(X.sd j).L.out.length+65∧((zd9 X o).sd j).L.inn=(X.sd j).L.inn∧((zd9 X o).sd j).out=(X.sd j).out:=by
 unfold zd9;dsimp only;split<;>exact zoB _ _ _ _
theorem zwM (X:NodX) (o:zgM):(zd9 X o).nb=X.nb:=by
 unfold zd9;dsimp only;split<;>exact zwL _ _ _
theorem zy5 (via up:List Int):∀ (held:List zcO) (s:PlF),(∀ o∈s.out,o.to∈up)→∀ o∈(held.foldl (zbF via up) s).out,o.to∈up
 | [],s,h=>h
 | x::r,s,h=>by
  rw[Yal];refine zy5 via up r _ ?_;unfold zbF;split
  ·grind
  ·exact h
theorem zqX (via up:List Int):∀ (held:List zcO) (s:PlF),(held.foldl (zbF via up) s).out.length≤s.out.length+held.length
 | [],s=>Yd _
 | x::r,s=>by
  rw[Yal];refine Yz (zqX via up r _) ?_;unfold zbF;split<;>simp<;>omega
theorem zEO (h:NodeAt B0 M0 S0 B M P X R) {up:List Int} {a:Option Addr} {n c:Nat} (hu:SrcOk B 1 a n (up.map zi)) (hun:n≤64) (hup:∀ k∈up,k∈X.nb) (hN:P.N≤4611686018427387904) (hb:∀ k∈X.nb,(X.sd k).L.out.length+20000≤1000000000) :
  CallsM prog 73 [ptr P.n,.slice a n c] M fun v M'=>v = .tuple #[]∧NTo B0 M0 S0 B M' P (zdm X up) R 0 256:=by
 have hC:CuAt B M P.c P.p P.N P.H X.C:=h.at'.part 2 rfl;have hI:=hC.st.st.inv
 have hqh:X.C.X.S.l.length≤256:=by
  have h1:=hI.qh;have h2:=hC.st.bd
  unfold zcN at h2;omega
 refine znZ oS ?_;refine zW h.self ?_;refine(zCX h.at' hC hN).mono ?_;rintro v M1 ⟨ah,ch,rfl,hel,h1⟩;obtain⟨B1,eB1⟩:=oI (newB B M M1);rw[←eB1] at hel h1;have hB1:B.le B1:=by rw[eB1];exact zeN h.le
 have h2:NodeAt B0 M0 S0 B1 M1 P X R:=⟨h1,h.inv⟩
 refine zR ?_;refine brn (fun g=>?_) (fun g=>?_)
 ·have e:zdm X up=X:=by unfold zdm;rw[if_pos];simpa using Zd0 g
  refine zR ?_;rw[e];exact⟨rfl,B1,P,hB1,NP.same.refl P oM,h2⟩
 have g0:¬X.C.X.S.l.length=0:=by have:=Zd1 g;omega
 refine zR ?_;refine zJ0 (R:=R) h2 (s:=1) (n:=64) oS fun bv M2 h3=>?_
 have e0:(List.replicate (Int.toNat 64) [Value.int .i64 0]).flatten=(List.replicate 64 (0:Int)).map zi:=by rw[List.map_replicate];rfl
 refine zR ?_
 refine zak (σ:=Nat×Mem) [24] (fun y=>[(24,.int .i64 y.1)]) (fun _=>[]) (fun y=>y.2)
  (fun|⟨i,Mc⟩=>i≤64∧NodeAt B0 M0 S0 B1 Mc P X (R++[zaB 3 1 (some ⟨bv,0,none⟩) 64 64 ((List.replicate i (-1:Int)++List.replicate (64 - i) 0).map zi)])) (fun y=>64 - y.1) ⟨0,M2⟩ ⟨Y5 _,by simp_all⟩ zS ?_
 rintro ⟨i,Mc⟩ ⟨hi,hc⟩;refine brn (fun g=>?_) (fun g=>?_)
 ·have hlt:i<64:=by have:=Zd0 g;dsimp only at this;omega
  refine ob (by omega) ?_;refine zR ?_;refine zIZ hc hlt oS fun M3 h4=>?_
  refine zR ?_;refine obr (inR_i64 (by omega)) ?_;refine⟨⟨i+1,M3⟩,⟨hlt,?_⟩,by omega,zS⟩
  have e1:((List.replicate i (-1:Int)++List.replicate (64 - i) 0).map zi).set i (.int .i64 (-1))=(List.replicate (i+1) (-1:Int)++List.replicate (64 - (i+1)) 0).map zi:=by
   rw[show 64 - i=(64 - (i+1))+1 by omega,List.replicate_succ,List.replicate_succ'];simp[List.set_append]
  rw[e1] at h4;exact h4
 have hge:i=64:=by have:=Zd1 g;dsimp only at this;omega
 subst hge
 let st (j:Nat):List Int:=(X.C.X.S.l.take j).foldl (fun v m=>match zcS X.me X.nb X.tab m.id.d with|some k=>v.set m.id.d.toNat k|none=>v) (List.replicate 64 (-1))
 have hst:∀ j (hj:j<X.C.X.S.l.length),st (j+1)=(match zcS X.me X.nb X.tab (X.C.X.S.l[j]).id.d with|some k=>(st j).set (X.C.X.S.l[j]).id.d.toNat k|none=>st j):=fun j hj=>by
  simp only[st,Y1,Yb hj,Ya0];rfl
 have hfin:st X.C.X.S.l.length=zj6 X:=by simp only[st,zj6];rw[Yaj]
 have hsl:∀ j,(st j).length=64:=by
  intro j
  induction j with
  | zero=>simp[st]
  | succ j ih=>
   by_cases hj:j<X.C.X.S.l.length
   ·grind
   ·grind
 refine zR ?_
 refine zak (σ:=Nat×Mem) [33] (fun y=>[(33,.int .i64 y.1)]) (fun _=>[]) (fun y=>y.2)
  (fun|⟨j,Mc⟩=>j≤X.C.X.S.l.length∧NodeAt B0 M0 S0 B1 Mc P X (R++[zaB 3 1 (some ⟨bv,0,none⟩) 64 64 ((st j).map zi)])) (fun y=>X.C.X.S.l.length - y.1) ⟨0,Mc⟩ ⟨Y5 _,by grind⟩ zS ?_
 clear hc;rintro ⟨j,Mc⟩ ⟨hj,hc⟩;refine brn (fun g=>?_) (fun g=>?_)
 ·have hlt:j<X.C.X.S.l.length:=by have:=Zd0 g;dsimp only at this;omega
  obtain⟨q1,b2,o2,cs,rfl,hrows,hrow,hcs,q,nq,kq,rfl,hq,hnq⟩:=hel.at (i:=j) oD oM;obtain⟨m,hm⟩:=oI ((X.C.X.S.l.map zqW)[j]);have hmid:m.id=(X.C.X.S.l[j]).id:=by rw[hm];simp
  have hidd:0≤m.id.d∧m.id.d<64:=by
   rw[hmid];have h8:=zdf (hI.msgs _ (Yai hlt)).1
   have h9:=(zxT h8.1).2.1;omega
  rw[←hm] at hq hrow;have hrow':=Ycg hc.le hrow
  have hT:TabOk B1 Mc P.tx X.me 64 X.nb X.tab:=hc.at'.part 3 rfl;have hs1:=hst j hlt
  rw[←hmid] at hs1;refine ob (by omega) ?_;refine zR ?_;refine on hrow' ?_;refine zW hc.self ?_;refine(zx6 hT m.id.d).mono ?_;rintro v M4 ⟨rfl,hle4⟩;have h4:=hc.up hle4
  cases hf:zcS X.me X.nb X.tab m.id.d with
  | none=>
   rw[hf] at hs1;have hs1:st (j+1)=st j:=hs1
   rw[←hs1] at h4;refine zT (hle4) ?_;refine zR ?_;refine obr (inR_i64 (by omega)) ?_;exact⟨⟨j+1,M4⟩,⟨hlt,h4⟩,by omega,zS⟩
  | some k=>
   rw[hf] at hs1;have hs1:st (j+1)=(st j).set m.id.d.toNat k:=hs1
   refine zT (hle4) ?_;refine zR ?_;refine ob (by omega) ?_;refine zR ?_;refine zIZ h4 (j:=m.id.d.toNat) oM oM fun M5 h5=>?_
   rw[←List.map_set (f:=zi),←hs1] at h5;refine zR ?_;refine obr (inR_i64 (by omega)) ?_;exact⟨⟨j+1,M5⟩,⟨hlt,h5⟩,by omega,zS⟩
 have hge:j=X.C.X.S.l.length:=by have:=Zd1 g;dsimp only at this;omega
 subst hge;rw[hfin] at hc;obtain⟨B2,hb2,hvs,h4⟩:=zF8 hc;have hB2:=Yc hB1 hb2
 refine zW h4.self ?_;refine(zCS h4.at' 4 rfl (hel.imp hb2 fun cs x _ h=>h.le hb2) hvs (hu.le hB2) oM oM).mono ?_;rintro v M5 ⟨ap,cp,rfl,hof,h5⟩;obtain⟨B5,eB5⟩:=oI (newB B2 Mc M5);rw[←eB5] at hof h5;have hB5:B.le B5:=Yc hB2 (by rw[eB5];exact zeN h4.le)
 obtain⟨pl,hpl⟩:=oI (zet X up);have hpl':zfe X.dsk X.next (X.C.X.S.l.map zqW) (zj6 X) up=pl:=hpl.symm
 rw[hpl'] at hof h5;have hto:∀ o∈pl.out,o.to∈up:=by rw[hpl];exact zy5 _ _ _ _ oS
 have hpn:pl.out.length≤256:=by
  have:=zqX (zj6 X) up (X.C.X.S.l.map zqW) ⟨X.dsk,X.next,[]⟩;rw[hpl];unfold zet zfe;simp at this;omega
 have h6:NodeAt B0 M0 S0 B5 M5 { P with K:=P.K+X.C.X.S.l.length } { X with dsk:=pl.f,next:=pl.next } R:=⟨h5,h4.inv.nbs,h4.inv.len,h4.inv.key,h4.inv.val⟩
 have eo:zdm X up=pl.out.foldl zd9 { X with dsk:=pl.f,next:=pl.next }:=by unfold zdm;rw[if_neg g0,hpl]
 let Y (i:Nat):NodX:=(pl.out.take i).foldl zd9 { X with dsk:=pl.f,next:=pl.next }
 have hY:∀ i (hi:i<pl.out.length),Y (i+1)=zd9 (Y i) pl.out[i]:=fun i hi=>by
  simp only[Y,Y1,Yb hi,Ya0];rfl
 have hYf:Y pl.out.length=zdm X up:=by rw[eo];simp only[Y];rw[Yaj]
 rw[hpl'];refine zR ?_
 refine zak (σ:=Nat×Mem×Mem×NP) [65] (fun y=>[(65,.int .i64 y.1)]) (fun _=>[]) (fun y=>y.2.1)
  (fun|⟨i,Md,Bd,Pd⟩=>i≤pl.out.length∧NodeAt B0 M0 S0 Bd Md Pd (Y i) R∧B5.le Bd∧P.same Pd 0 256∧(Y i).nb=X.nb∧∀ j,((Y i).sd j).L.out.length≤(X.sd j).L.out.length+65*i) (fun y=>pl.out.length - y.1)
  ⟨0,M5,B5,{ P with K:=P.K+X.C.X.S.l.length }⟩ ⟨Y5 _,h6,Ya _,⟨rfl,fun _=>rfl,by simp,by simp_all,rfl⟩,rfl,fun j=>Yd4 _ _⟩ zS ?_
 rintro ⟨i,Md,Bd,Pd⟩ ⟨hi,hd,hbd,hsm,hnb,hbo⟩;have en:Pd.n=P.n:=hsm.n
 refine brn (fun g=>?_) (fun g=>?_)
 ·have hlt:i<pl.out.length:=by have:=Zd0 g;dsimp only at this;omega
  obtain⟨q1,b2,o2,cs,ea,hrows,hrow,hcs,q,nq,kq,rfl,hq,hnq⟩:=(hof.imp hbd fun cs x _ h=>h.le hbd).at (i:=i) oD hlt;obtain⟨o,ho⟩:=oI (pl.out[i]);have hY1:=hY i hlt
  have homem:o.to∈X.nb:=hup _ (hto _ (by simp_all));rw[←ho] at hq hrow hY1;have hql:=hq.maplen
  subst hql;have hrow':=Ycg hd.le hrow
  refine ob (by omega) ?_;refine atp ea ?_;refine zR ?_;refine on hrow' ?_;refine zR ?_;have hp:=zed hd (k:=o.to) (by simp_all) ⟨1,o.n,o.msg.id,o.msg.data,[]⟩ (pD:=q) (kD:=kq) (pC:=none) (kC:=0) ⟨hq.le hd.le,zbR _,hnq,by show 0≤2097152;decide⟩ (by grind)
  rw[en] at hp;refine hp.mono ?_;rintro v M7 ⟨rfl,B7,P7,hb7,hs7,h7⟩;have hs8:P.same P7 0 256:=by have:=hsm.trans hs7;simpa using this
  obtain⟨W,hW⟩:∃ W:Word,W=⟨1,o.n,o.msg.id,o.msg.data,[]⟩:=⟨_,rfl⟩
  rw[←hW] at h7 ⊢;have hg:zd9 (Y i) o=(if (zbn (Y i) o.to W).2≠0 then { (zbn (Y i) o.to W).1 with dsk:=if isF (zbn (Y i) o.to W).1.dsk o.msg.id then zmQ (zbn (Y i) o.to W).1.dsk o.msg.id else (zbn (Y i) o.to W).1.dsk } else (zbn (Y i) o.to W).1):=by rw[hW];rfl
  have hnb2:(Y (i+1)).nb=X.nb:=by rw[hY1,zwM,hnb]
  have hbo2:∀ j,((Y (i+1)).sd j).L.out.length≤(X.sd j).L.out.length+65*(i+1):=fun j=>by
   rw[hY1];have:=(zuj (Y i) o j).1;have:=hbo j;omega
  have hbd7:=Yc hbd hb7;refine zR ?_;refine brn (fun g2=>?_) (fun g2=>?_)
  ·have g3:(zbn (Y i) o.to W).2≠0:=by simpa using g2
   rw[if_pos g3] at hg;have hs7':M7.has P.n 96 (zdF P7 (zbn (Y i) o.to W).1):=by rw[←hs8.n];exact h7.self
   refine zW hs7' ?_;refine(zCP h7.at' 4 rfl o.msg.id).mono ?_;rintro v M8 ⟨rfl,h8⟩;have h9:NodeAt B0 M0 S0 B7 M8 P7 (Y (i+1)) R:=by rw[hY1,hg];exact⟨h8,h7.inv.nbs,h7.inv.len,h7.inv.key,h7.inv.val⟩
   refine obr (inR_i64 (by omega)) ?_;exact⟨⟨i+1,M8,B7,P7⟩,⟨hlt,h9,hbd7,hs8,hnb2,hbo2⟩,by omega,zS⟩
  ·have g3:¬(zbn (Y i) o.to W).2≠0:=by simpa using g2
   rw[if_neg g3] at hg;refine zR ?_;refine obr (inR_i64 (by omega)) ?_;exact⟨⟨i+1,M7,B7,P7⟩,⟨hlt,by simp_all,hbd7,hs8,hnb2,hbo2⟩,by omega,zS⟩
 have hge:i=pl.out.length:=by have:=Zd1 g;dsimp only at this;omega
 subst hge;rw[hYf] at hd;refine zR ?_;exact⟨rfl,Bd,Pd,Yc hB5 hbd,hsm,hd⟩
end
end
section
variable {B0 M0 B M B' M':Mem} {S0:Nat→Prop} {R:List Pt} {ps:List Pt}
section
variable {P:NP} {X:NodX} {k:Int}
theorem zI0 (h:NodeAt B0 M0 S0 B M P X R) (hk:k∈X.nb) {o n:Nat} {vs:List Value} {K:Mem→Prop} (x':SP) (s':SideR) (hn:o+n≤4) (hx:x'.s=(P.sp k).s)
  (he:rpl (zeV (P.sp k) (X.sd k)) 0 [zby (P.sp k).s 114 (zd (ziI (P.sp k) (X.sd k)) o vs)]=zeV x' s') (hK:∀ M1,NodeAt B0 M0 S0 B M1 (P.setSp k x') (X.setSd k s') R→K M1):zc9 M (P.sp k).s o n vs K:=
 (h.opn hk).stoV 0 rfl hn fun M1 h1=>hK M1 (h.cls hk (h1.c he) hx)
def zbS (X:NodX) (k:Int):NodX:=if (X.sd k).L.resets≠(X.sd k).resets then { X.setSd k { X.sd k with resets:=(X.sd k).L.resets } with dsk:=ziK X.dsk k } else X
def zb5 (c:zdD):List UInt8:=if zcj c=0 then zeq (za9 c) else []
def zsk (s:SideR):SideR:={ s with L:={ s.L with out:=[] },out:=s.out++s.L.out.flatMap zb5 }
def zc0 (X:NodX) (k:Int):NodX:=X.setSd k (zsk (X.sd k))
def zeW (X:NodX):List Int:=X.nb.filter fun k=>(X.sd k).L.up
def zd6 (X:NodX):NodX:=if (X.nb.foldl zbS X).C.w.failed then X.nb.foldl zbS X else zdm (X.nb.foldl zbS X) (zeW X)
def zc1 (X:NodX):NodX:=X.nb.foldl zc0 (zd6 X)
theorem zwN (X:NodX) (k:Int):(zbS X k).nb=X.nb:=by unfold zbS;split<;>rfl
theorem zy6 (X:NodX) (k j:Int):((zbS X k).sd j).L=(X.sd j).L∧((zbS X k).sd j).out=(X.sd j).out:=by
 unfold zbS;split
 ·unfold NodX.setSd;dsimp only;split
  ·simp_all
  ·simp
 ·simp
theorem zmU:∀ (l:List Int) (X:NodX),(l.foldl zbS X).nb=X.nb∧∀ j,((l.foldl zbS X).sd j).L=(X.sd j).L∧((l.foldl zbS X).sd j).out=(X.sd j).out
 | [],X=>⟨rfl,fun _=>⟨rfl,rfl⟩⟩
 | a::r,X=>by
  rw[Yal];obtain⟨h1,h2⟩:=zmU r (zbS X a);refine⟨h1.trans (zwN X a),fun j=>?_⟩;rw[(h2 j).1,(h2 j).2];exact zy6 X a j
theorem zAO (X:NodX) (up:List Int) (hl:X.C.X.S.l.length≤256) (j:Int):(zdm X up).nb=X.nb∧((zdm X up).sd j).L.out.length≤(X.sd j).L.out.length+16640∧((zdm X up).sd j).out=(X.sd j).out:=by
 have key:∀ (l:List zgM) (Z:NodX),(l.foldl zd9 Z).nb=Z.nb∧((l.foldl zd9 Z).sd j).L.out.length≤(Z.sd j).L.out.length+65*l.length∧((l.foldl zd9 Z).sd j).out=(Z.sd j).out:=by
  intro l
  induction l with
  | nil=>simp
  | cons o r ih=>
   intro Z;rw[Yal];obtain⟨i1,i2,i3⟩:=ih (zd9 Z o);have:=zuj Z o j
   exact⟨i1.trans (zwM Z o),by grind,i3.trans this.2.2⟩
 unfold zdm;split
 ·simp
 ·have h1:=zqX (zj6 X) up (X.C.X.S.l.map zqW) ⟨X.dsk,X.next,[]⟩;have h2:(zet X up).out.length≤256:=by unfold zet zfe;simp at h1;omega
  obtain⟨k1,k2,k3⟩:=key (zet X up).out { X with dsk:=(zet X up).f,next:=(zet X up).next };exact⟨k1,by grind,k3⟩
theorem zAP (q:Option Addr) (c:Nat):CallsM prog 76 [.slice q 0 c] M fun v M'=>v = .tuple #[.slice none 0 0,.int .i64 2]∧M=M':=by
 refine zlx oS ?_;refine brn_t (decide_eq_true oM) ?_;refine zR ?_;exact⟨rfl,rfl⟩
theorem zmV (c:zdD):(zb5 c).length≤300:=by
 unfold zb5;split
 ·rename_i h;have h1:=(ziE h).1
  have h2:=zkD c;have h3:=zs5 c
  have h4:=zhx (zc7 (za9 c));have h5:(zc7 (za9 c)).length=(za9 c).length+2:=by simp[zc7]
  unfold zeq;simp;omega
 ·simp
theorem zCZ (x:zdD) {q:Option Addr} {c:Nat} (hs:SrcOk M 1 q (zfB x).length ((zfB x).map zc)):CallsM prog 76 [.slice q (zfB x).length c] M fun v M'=>∃ a' c' e,v = .tuple #[.slice a' (zb5 x).length c',.int .i64 e]∧NewSl M 5 1 a' (zb5 x).length c' ((zb5 x).map zc) M':=by
 by_cases h:zcj x=0
 ·have e1:zfB x=za9 x:=by unfold zfB;rw[if_pos h]
  have e2:zb5 x=zeq (za9 x):=by unfold zb5;rw[if_pos h]
  rw[e1] at hs ⊢;rw[e2];refine(zCi hs ?_).mono ?_
  ·have h1:=(ziE h).1;have h2:=zkD x
   have h3:=zs5 x;omega
  ·rintro v M' ⟨a',c',rfl,hN⟩;exact⟨a',c',0,rfl,hN⟩
 ·have e1:zfB x=[]:=by unfold zfB;rw[if_neg h]
  have e2:zb5 x=[]:=by unfold zb5;rw[if_neg h]
  rw[e1,e2];refine zJ (zAP q c) ?_;exact⟨none,0,2,rfl,Yaw M _ _⟩
theorem zwO:∀ (l:List Int) (X:NodX),(l.foldl zc0 X).nb=X.nb∧∀ j,j∉l→(l.foldl zc0 X).sd j=X.sd j
 | [],X=>⟨rfl,fun _ _=>rfl⟩
 | a::r,X=>by
  rw[Yal];obtain⟨h1,h2⟩:=zwO r (zc0 X a);refine⟨h1,fun j hj=>?_⟩;rw[h2 j fun e=>hj (Yak _ e)];unfold zc0 NodX.setSd;dsimp only;rw[if_neg fun e=>hj (by rw[e];exact Yc1 ..)]
theorem zmW (h:NodeAt B0 M0 S0 B M P X R) (hN:P.N≤4611686018427387904) (hK:P.K≤999999999000) (hb:∀ k∈X.nb,(X.sd k).L.out.length+20000≤1000000000∧(X.sd k).out.length≤10000000000000) :
  CallsM prog 35 [ptr P.n] M fun v M'=>v = .tuple #[]∧NTo B0 M0 S0 B M' P (zc1 X) R 0 256:=by
 have hnl:=h.inv.len;refine znW oS ?_;refine zM (zo0 h.self h.map h.inv) ?_;rintro v M1 ⟨an,cn,rfl,hN1⟩;obtain⟨B1,eB1⟩:=oI (newB B M M1);have hB1:B.le B1:=by rw[eB1];exact zeN h.le
 have hnear:SrcOk B1 1 an X.nb.length (X.nb.map zi):=by rw[eB1];exact zc5 hN1.src fun r hr=>(hN1.block hr).1
 have h1:NodeAt B0 M0 S0 B1 M1 P X R:=by rw[eB1];exact h.upN hN1.le
 have h2:=zJY h1 3 1
 let Y (i:Nat):NodX:=(X.nb.take i).foldl zbS X
 have hY:∀ i (hi:i<X.nb.length),Y (i+1)=zbS (Y i) X.nb[i]:=fun i hi=>by
  simp only[Y,Y1,Yb hi,Ya0];rfl
 let U (i:Nat):List Int:=(X.nb.take i).filter fun k=>(X.sd k).L.up
 have hU:∀ i (hi:i<X.nb.length),U (i+1)=U i++(if (X.sd X.nb[i]).L.up then [X.nb[i]] else []):=fun i hi=>by
  simp only[U,Y1,Yb hi,Yce,Option.toList];congr 1;cases hh:(X.sd X.nb[i]).L.up<;>simp[hh]
 refine zR ?_
 refine zak (σ:=Nat×Mem×Mem×NP×Option Addr×Nat) [18,2] (fun y=>[(18,.int .i64 y.1),(2,.slice y.2.2.2.2.1 (U y.1).length y.2.2.2.2.2)]) (fun _=>[]) (fun y=>y.2.1)
  (fun|⟨i,Mc,Bc,Pc,a,c⟩=>i≤X.nb.length∧NodeAt B0 M0 S0 Bc Mc Pc (Y i) (R++[zaB 3 1 a (U i).length c ((U i).map zi)])∧B1.le Bc∧P.same Pc 0 0) (fun y=>X.nb.length - y.1)
  ⟨0,M1,B1,P,none,0⟩ ⟨Y5 _,h2,Ya _,NP.same.refl P oM⟩ zS ?_
 rintro ⟨i,Mc,Bc,Pc,a,c⟩ ⟨hi,hc,hbc,hsm⟩;have hnbY:=(zmU (X.nb.take i) X).1
 have hLY:=(zmU (X.nb.take i) X).2;have en:=hsm.n
 have hself:Mc.has P.n 96 (zdF Pc (Y i)):=by rw[←en];exact hc.self
 refine brn (fun g=>?_) (fun g=>?_)
 ·have hlt:i<X.nb.length:=by have:=Zd0 g;dsimp only at this;omega
  obtain⟨hk1,b1,o1,e1,hr1⟩:=((hnear.le hbc).le hc.le).at hlt;have hYi:=hY i hlt
  have hUi:=hU i hlt;obtain⟨k,hk⟩:=oI (X.nb[i]);rw[←hk] at hYi hUi hr1;have hkm:k∈(Y i).nb:=by rw[hnbY,hk];exact Yai hlt
  have hsc:=hc.scell hkm;refine ob (by omega) ?_;refine atp e1 ?_;refine zR ?_;refine on hr1 ?_;refine zW hself ?_;refine hc.map.get zcY k (fun g=>?_) (fun y j g=>?_)
  ·rw[hc.inv.get hkm] at g;cases g
  rw[hc.inv.get hkm] at g;cases g;refine zQ hsc ?_;have hlk:=zfW (hc.opn hkm)
  refine zJ (zoh hlk) ?_;refine zU ?_;refine brn (fun g2=>?_) (fun g2=>?_)
  rotate_left
  have g3:¬((Y i).sd k).L.resets≠((Y i).sd k).resets:=by simpa using g2
  have hh:zbS (Y i) k=Y i:=by unfold zbS;rw[if_neg g3]
  obtain⟨Bz,hBz⟩:=oI Bc;obtain⟨Pz,hPz⟩:=oI Pc;obtain⟨Mz,hMz⟩:=oI Mc
  have hz:NodeAt B0 M0 S0 Bz Mz Pz (Y (i+1)) (R++[zaB 3 1 a (U i).length c ((U i).map zi)]):=by
   rw[hYi,hh,hBz,hPz,hMz];exact hc
  have hsmz:Pc.same Pz 0 0:=by rw[hPz];exact NP.same.refl Pc oM
  have hbz:Bc.le Bz:=by rw[hBz];exact Ya _
  rw[←hMz]
  rotate_left
  have g3:((Y i).sd k).L.resets≠((Y i).sd k).resets:=by simpa using g2
  have hh:zbS (Y i) k={ (Y i).setSd k { (Y i).sd k with resets:=((Y i).sd k).L.resets } with dsk:=ziK (Y i).dsk k }:=by unfold zbS;rw[if_pos g3]
  refine zW hsc ?_;refine zN (zoh hlk) ?_;refine zI0 hc hkm (Pc.sp k) { (Y i).sd k with resets:=((Y i).sd k).L.resets } oM rfl (by rfl) fun M3 h3=>?_
  have hself3:M3.has P.n 96 (zdF (Pc.setSp k (Pc.sp k)) ((Y i).setSd k { (Y i).sd k with resets:=((Y i).sd k).L.resets })):=by rw[←en];exact h3.self
  refine zW hself3 ?_;refine(zAM h3.at' 4 rfl (by have:=hsm.K;show Pc.K≤_;omega) k).mono ?_;rintro v Mz ⟨⟨kk,rfl⟩,h5⟩;obtain⟨Bz,hBz⟩:=oI Bc;obtain⟨Pz,hPz⟩:=oI (Pc.setSp k (Pc.sp k))
  have hz:NodeAt B0 M0 S0 Bz Mz Pz (Y (i+1)) (R++[zaB 3 1 a (U i).length c ((U i).map zi)]):=by
   rw[hYi,hh,hBz,hPz];exact⟨h5,h3.inv.nbs,h3.inv.len,h3.inv.key,h3.inv.val⟩
  have hsmz:Pc.same Pz 0 0:=by rw[hPz];exact NP.same.set Pc k rfl oM
  have hbz:Bc.le Bz:=by rw[hBz];exact Ya _
  clear h3 h5 hself3
  all_goals
   have hkmZ:k∈(Y (i+1)).nb:=by rw[hYi,zwN];exact hkm
   have hscz:=hz.scell hkmZ;have hUp:((Y (i+1)).sd k).L.up=(X.sd k).L.up:=by rw[hYi,(zy6 _ _ _).1,(hLY k).1]
   have hsz:(Pz.sp k).s=(Pc.sp k).s:=hsmz.s k;rw[hsz] at hscz;have hsm2:P.same Pz 0 0:=by have:=hsm.trans hsmz;simpa using this
   refine zW hscz ?_;refine zJ (zv7 (zfW (hz.opn hkmZ))) ?_;rw[hUp];refine zR ?_;cases hup:(X.sd k).L.up with
   | false=>
    rw[hup] at hUi;have hUi:U (i+1)=U i:=by simpa using hUi
    rw[←hUi] at hz;refine zR ?_;refine obr (inR_i64 (by omega)) ?_;refine⟨⟨i+1,Mz,Bz,Pz,a,c⟩,⟨hlt,hz,Yc hbc hbz,hsm2⟩,by omega,?_⟩;rw[←hUi];exact zS
   | true=>
    rw[hup] at hUi;have hUi:U (i+1)=U i++[k]:=by simpa using hUi
    have hul:(U i).length≤i:=by simp only[U];exact Yz (Yat _ _) oE
    refine zR ?_;refine zJX hz (by grind) (by simp[maxLen];omega) oC fun a4 c4 M4 hc4 h4=>?_
    have e4:(U i).map zi++[zi k]=(U (i+1)).map zi:=by rw[hUi];simp
    have e5:(U i).length+1=(U (i+1)).length:=by rw[hUi];simp
    rw[e4,e5] at h4;refine zR ?_;refine obr (inR_i64 (by omega)) ?_;refine⟨⟨i+1,M4,Bz,Pz,a4,c4⟩,⟨hlt,h4,Yc hbc hbz,hsm2⟩,by omega,?_⟩;rw[←e5];exact zS
 have hge:i=X.nb.length:=by have:=Zd1 g;dsimp only at this;omega
 subst hge;have eU:U X.nb.length=zeW X:=by simp only[U,zeW];rw[Yaj]
 have eY:Y X.nb.length=X.nb.foldl zbS X:=by simp only[Y];rw[Yaj]
 rw[eU,eY] at hc;rw[eY] at hself;obtain⟨B2,hb2,hups,h3⟩:=zF8 hc;have hB2:=Yc hB1 (Yc hbc hb2)
 obtain⟨Z,hZ⟩:=oI (X.nb.foldl zbS X);obtain⟨z1,z2⟩:=zmU X.nb X;rw[←hZ] at h3 hself z1 z2;have hC:CuAt B2 Mc Pc.c Pc.p Pc.N Pc.H Z.C:=h3.at'.part 2 rfl
 have hul:(zeW X).length≤64:=by unfold zeW;exact Yz (Yat _ _) hnl
 have hum:∀ k∈zeW X,k∈Z.nb:=fun k hk=>by grind
 have hlen:Z.C.X.S.l.length≤256:=by
  have h1:=hC.st.st.inv.qh;have h2:=hC.st.bd
  unfold zcN at h2;omega
 rw[eU];refine zW hself ?_;refine zJ (zeA hC) ?_;refine brn (fun g2=>?_) (fun g2=>?_)
 rotate_left
 have g3:Z.C.w.failed=true:=by simpa using g2
 have em:zd6 X=Z:=by unfold zd6;rw[←hZ,if_pos g3]
 obtain⟨BM,hBM⟩:=oI B2;obtain⟨MM,hMM⟩:=oI Mc;obtain⟨PM,hPM⟩:=oI Pc;have h5:NodeAt B0 M0 S0 BM MM PM (zd6 X) R:=by rw[em,hBM,hMM,hPM];exact h3
 have hsm5:P.same PM 0 256:=by rw[hPM];exact hsm.more oM oM
 have hB5:B.le BM:=by rw[hBM];exact hB2
 have hnb5:(zd6 X).nb=X.nb:=by rw[em];exact z1
 have hbo5:∀ j,((zd6 X).sd j).L.out.length≤(X.sd j).L.out.length+16640∧((zd6 X).sd j).out=(X.sd j).out:=fun j=>by simp_all
 refine zR ?_;rw[←hMM]
 rotate_left
 have g3:¬Z.C.w.failed=true:=by simpa using g2
 have em:zd6 X=zdm Z (zeW X):=by unfold zd6;rw[←hZ,if_neg g3]
 have hN3:=hsm.N;have hof:=zEO (P:=Pc) (M:=Mc) (c:=c) h3 hups hul hum oM (fun k hk=>by simp_all)
 rw[en] at hof;refine zR ?_;refine hof.mono ?_;rintro v MM ⟨rfl,BM,PM,hbM,hsM,h5⟩;rw[←em] at h5;have hsm5:P.same PM 0 256:=by have:=hsm.trans hsM;simpa using this
 have hB5:=Yc hB2 hbM;have ho:=zAO Z (zeW X) hlen
 rw[←em] at ho;have hnb5:(zd6 X).nb=X.nb:=(ho 0).1.trans z1
 have hbo5:∀ j,((zd6 X).sd j).L.out.length≤(X.sd j).L.out.length+16640∧((zd6 X).sd j).out=(X.sd j).out:=fun j=>by simp_all
 all_goals
  have emn:PM.n=P.n:=hsm5.n;have hlen5:∀ k∈X.nb,((zd6 X).sd k).L.out.length+3360≤1000000000∧((zd6 X).sd k).out.length≤10000000000000:=fun k hk=>by grind
  have hself5:MM.has P.n 96 (zdF PM (zd6 X)):=by rw[←emn];exact h5.self
  refine zM (zo0 hself5 h5.map h5.inv) ?_;rintro v M6 ⟨an6,cn6,rfl,hN6⟩;rw[hnb5] at hN6 ⊢;obtain⟨B6,eB6⟩:=oI (newB BM MM M6);have hB6:B.le B6:=Yc hB5 (by rw[eB6];exact zeN h5.le)
  have hnear6:SrcOk B6 1 an6 X.nb.length (X.nb.map zi):=by rw[eB6];exact zc5 hN6.src fun r hr=>(hN6.block hr).1
  have h6:NodeAt B0 M0 S0 B6 M6 PM (zd6 X) R:=by rw[eB6];exact h5.upN hN6.le
  refine zR ?_
  refine zak (σ:=Nat×Mem×Mem×NP) [74] (fun y=>[(74,.int .i64 y.1)]) (fun _=>[]) (fun y=>y.2.1)
   (fun|⟨i,Mc,Bc,Pc⟩=>i≤X.nb.length∧NodeAt B0 M0 S0 Bc Mc Pc ((X.nb.take i).foldl zc0 (zd6 X)) R∧B6.le Bc∧P.same Pc 0 256) (fun y=>X.nb.length - y.1)
   ⟨0,M6,B6,PM⟩ ⟨Y5 _,h6,Ya _,hsm5⟩ zS ?_
  rintro ⟨i,Me,Be,Pe⟩ ⟨hi6,hc6,hbc6,hsm6⟩;refine brn (fun g=>?_) (fun g=>?_)
  ·have hlt:i<X.nb.length:=by have:=Zd0 g;dsimp only at this;omega
   obtain⟨hk1,b1,o1,e1,hr1⟩:=((hnear6.le hbc6).le hc6.le).at hlt;obtain⟨W,hW⟩:=oI ((X.nb.take i).foldl zc0 (zd6 X))
   have hW1:(X.nb.take (i+1)).foldl zc0 (zd6 X)=zc0 W X.nb[i]:=by
    rw[hW,Y1,Yb hlt,Ya0];rfl
   obtain⟨k,hk⟩:=oI (X.nb[i]);rw[←hk] at hW1 hr1;rw[←hW] at hc6;have hWk:=zwO (X.nb.take i) (zd6 X)
   rw[←hW,hnb5] at hWk;have hkm:k∈W.nb:=by rw[hWk.1,hk];exact Yai hlt
   have hwk:W.sd k=(zd6 X).sd k:=hWk.2 k (by
    rw[hk];intro hm;obtain⟨j,hj,e⟩:=Ybm hm;rw[List.getElem_take] at e;have hj2:j<min i X.nb.length:=by simpa using hj
    have:=Ycx.1 h.inv.nbs j i oM hlt oM
    omega)
   have hkx:k∈X.nb:=by rw[hk];exact Yai hlt
   have hl5:=hlen5 k hkx;rw[←hwk] at hl5;have hself6:Me.has P.n 96 (zdF Pe W):=by rw[←hsm6.n];exact hc6.self
   refine ob (by omega) ?_;refine atp e1 ?_;refine zR ?_;refine on hr1 ?_;refine zW hself6 ?_;refine hc6.map.get zcY k (fun g=>?_) (fun y j g=>?_)
   ·rw[hc6.inv.get hkm] at g;cases g
   rw[hc6.inv.get hkm] at g;cases g;refine zW ((hc6.scell hkm)) ?_;refine(zB6 (zfW (hc6.opn hkm))).mono ?_;rintro v M7 ⟨B7,q7,c7,xs,p7,rfl,hb7,hxs,hxm,hxo,h7⟩;have hq:At Be Me (sdD Pe W k) B7 M7 (zeV { Pe.sp k with p:=p7 } { W.sd k with L:={ (W.sd k).L with out:=[] } }):=(hc6.opn hkm).call 1 rfl h7.cls
   have hxl:xs.length=(W.sd k).L.out.length:=by rw[←hxm,Y9]
   let F (j:Nat):List UInt8:=(W.sd k).out++(xs.take j).flatMap fun x=>zb5 x.x
   have hF:∀ j (hj:j<xs.length),F (j+1)=F j++zb5 xs[j].x:=fun j hj=>by
    simp only[F,Y1,Yb hj,Ydj,Yr];simp
   have hFl:∀ j,(F j).length≤10000000000000+300*j:=by
    intro j
    induction j with
    | zero=>grind
    | succ j ih=>
     by_cases hj:j<xs.length
     ·rw[hF j hj,Yi];have:=zmV xs[j].x;omega
     ·have:F (j+1)=F j:=by simp only[F];rw[Yf oM,Yf oM]
      rw[this];omega
   refine zR ?_
   refine zak (σ:=Nat×Mem×Option Addr×Nat) [90] (fun y=>[(90,.int .i64 y.1)]) (fun _=>[]) (fun y=>y.2.1)
    (fun|⟨j,Mf,oj,cj⟩=>j≤xs.length∧At Be Me (sdD Pe W k) B7 Mf (zeV { Pe.sp k with p:=p7,o:=oj,c:=cj } { W.sd k with L:={ (W.sd k).L with out:=[] },out:=F j })) (fun y=>xs.length - y.1)
    ⟨0,M7,(Pe.sp k).o,(Pe.sp k).c⟩ ⟨Y5 _,by grind⟩ zS ?_
   rintro ⟨j,Mf,oj,cj⟩ ⟨hj,hf⟩;refine brn (fun g=>?_) (fun g=>?_)
   ·have hjl:j<xs.length:=by have:=Zd0 g;dsimp only at this;omega
    obtain⟨x,hx⟩:=oI (xs[j]);obtain⟨b2,o2,e2,hr2⟩:=SrcOk.fall (enc:=CtlX.cs) (s:=7) (fun _=>rfl) (hxs.le hf.le) oD (j:=j) (x:=x) (by simp_all);have hFj:=hF j hjl
    rw[←hx] at hFj;have hxo':=hxo x (by simp_all)
    refine ob (by omega) ?_;refine atp e2 ?_;refine zR ?_;refine on hr2 ?_;refine zR ?_;refine(zCe x (hxo'.1.le hf.le)).mono ?_;rintro v M8 ⟨a8,c8,rfl,hN8⟩;refine zM (zCZ x.x hN8.src) ?_;rintro v M9 ⟨a9,c9,e9,rfl,hN9⟩;have hf9:=(hf.up hN8.le).up hN9.le
    have hfl:=zmV x.x;have hFj9:=hFl j
    refine zW ((hf9.cell 0 rfl)) ?_;refine zb2 hN9.src ?_;refine hf9.appV 3 rfl (by grind) (by simp[maxLen];omega) (zaA _) fun a10 c10 M10 hc10 h10=>?_
    refine zR ?_;refine h10.stoV 0 rfl oS fun M11 h11=>?_
    have h12:At Be Me (sdD Pe W k) B7 M11 (zeV { Pe.sp k with p:=p7,o:=a10,c:=c10 } { W.sd k with L:={ (W.sd k).L with out:=[] },out:=F (j+1) }):=by
     refine h11.c ?_;rw[hFj];simp[zd,ziI]
    refine zR ?_;refine obr (inR_i64 (by omega)) ?_;exact⟨⟨j+1,M11,a10,c10⟩,⟨hjl,h12⟩,by omega,zS⟩
   have hge:j=xs.length:=by have:=Zd1 g;dsimp only at this;omega
   subst hge
   have eF:F xs.length=(zsk (W.sd k)).out:=by
    simp only[F,zsk];rw[Yaj,←hxm,List.flatMap_map]
   have h13:=hc6.cls hkm hf rfl
   have e13:W.setSd k { W.sd k with L:={ (W.sd k).L with out:=[] },out:=F xs.length }=(X.nb.take (i+1)).foldl zc0 (zd6 X):=by
    rw[hW1,eF];rfl
   rw[e13] at h13
   have hsm7:P.same (Pe.setSp k { Pe.sp k with p:=p7,o:=oj,c:=cj }) 0 256:=by
    have:=hsm6.trans (NP.same.set Pe k (x':={ Pe.sp k with p:=p7,o:=oj,c:=cj }) rfl (a:=0) (b:=0) oM);simpa using this
   refine zR ?_;refine obr (inR_i64 (by omega)) ?_;exact⟨⟨i+1,Mf,B7,Pe.setSp k { Pe.sp k with p:=p7,o:=oj,c:=cj }⟩,⟨hlt,h13,Yc hbc6 hb7,hsm7⟩,by omega,zS⟩
  have hge:i=X.nb.length:=by have:=Zd1 g;dsimp only at this;omega
  subst hge;rw[Yaj] at hc6;refine zR ?_;exact⟨rfl,Be,Pe,Yc hB6 hbc6,hsm6,hc6⟩
end
end
section
variable {B0 M0 B M B' M':Mem} {S0:Nat→Prop} {R:List Pt} {ps:List Pt}
def zmX (X:NodX) (q:Nat):Prop:=∀ k∈X.nb,(X.sd k).L.out=[]∧(X.sd k).L.inn=[]∧(X.sd k).out.length≤q
theorem zHc (l:List zdD):(l.flatMap zb5).length≤300*l.length:=by
 induction l with
 | nil=>simp
 | cons x r ih=>
  have:=zmV x;rw[Ybn,Yi,Ym];omega
section
variable {P:NP} {X:NodX} {k:Int}
def zj7 (X:NodX):Int:=if X.C.w.failed then 9 else 0
theorem zkJ (h:NodeAt B0 M0 S0 B M P X R):CallsM prog 33 [ptr P.n] M fun v M'=>v = .int .i64 (zj7 X)∧M=M':=by
 have hC:CuAt B M P.c P.p P.N P.H X.C:=h.at'.part 2 rfl;refine znV oS ?_;refine zW h.self ?_;refine zJ (zeA hC) ?_;unfold zj7;cases X.C.w.failed
 ·refine zR ?_;exact⟨rfl,rfl⟩
 ·refine zR ?_;exact⟨rfl,rfl⟩
theorem NodeAt.cust (h:NodeAt B0 M0 S0 B M P X R) {N':Int} {H':CuH} {C':CuR} (h':At B0 M0 S0 B M' (rpl ((zgT P X++zfV P X)++R) 2 [zdx P.c P.p N' H' C'])):NodeAt B0 M0 S0 B M' { P with N:=N',H:=H' } { X with C:=C' } R:=
 ⟨h',h.inv.nbs,h.inv.len,h.inv.key,h.inv.val⟩
def zbd (X:NodX) (d:Int) (l:List UInt8):NodX×IdT×Int:=if X.C.w.failed then (X,zaV,9) else (zc1 { X with C:=(zbm X.C d l).1 },(zbm X.C d l).2)
theorem zmY (h:NodeAt B0 M0 S0 B M P X R) (hN:P.N<4611686018427387904) (hK:P.K≤999999999000) {q:Nat} (hr:zmX X q) (hq:q≤10000000000000) (d:Int) {a:Option Addr} {cc:Nat} {l:List UInt8} (hl:SrcOk B 1 a l.length (l.map zc)) (hn:l.length≤1048576) :
  CallsM prog 10 [ptr P.n,.int .i64 d,.slice a l.length cc] M fun v M'=>v = .tuple #[idA (zbd X d l).2.1,.int .i64 (zbd X d l).2.2]∧NTo B0 M0 S0 B M' P (zbd X d l).1 R 1 256:=by
 refine znn oS ?_;refine zJ (zkJ h) ?_;unfold zj7 zbd;cases hf:X.C.w.failed
 ·refine zW h.self ?_;refine(zya h.at' 2 rfl oM d hl hn).mono ?_;rintro v M1 ⟨H1,rfl,h1⟩;have h2:=h.cust h1
  refine zR ?_;refine(zmW h2 (by grind) hK fun k hk=>?_).mono ?_
  ·obtain⟨r1,r2,r3⟩:=hr k hk;show (X.sd k).L.out.length+_≤_∧(X.sd k).out.length≤_
   rw[r1];exact⟨by decide,by omega⟩
  rintro v M2 ⟨rfl,B2,P2,hb2,hs2,h3⟩;refine zR ?_;exact⟨rfl,B2,P2,hb2,⟨hs2.n,hs2.s,by have:=hs2.N;dsimp only at this;omega,hs2.K,hs2.p⟩,h3⟩
 ·refine zR ?_;exact⟨rfl,B,P,Ya _,NP.same.refl P oM,h⟩
end
end
section
variable {B0 M0 B M B' M':Mem} {S0:Nat→Prop} {R:List Pt} {ps:List Pt}
section
variable {P:NP} {X:NodX} {k:Int}
def zgU (X:NodX) (k:Int):NodX:=X.setSd k { X.sd k with out:=[] }
theorem zwP (h:NodeAt B0 M0 S0 B M P X R) (hk:k∈X.nb):CallsM prog 65 [ptr P.n,.int .i64 k] M fun v M'=>∃ B' a c P',v = .slice a (X.sd k).out.length c∧B.le B'∧SrcOk B' 1 a (X.sd k).out.length ((X.sd k).out.map zc)∧P.same P' 0 0∧NodeAt B0 M0 S0 B' M' P' (zgU X k) R:=by
 refine zpc oS ?_;have hs:=h.self
 refine zW hs ?_;refine h.map.get zcY k (fun g=>?_) (fun y j g=>?_)
 ·rw[h.inv.get hk] at g;cases g
 rw[h.inv.get hk] at g;cases g;refine zW hs ?_;refine h.map.get zcY k (fun g=>?_) (fun y j g=>?_)
 ·rw[h.inv.get hk] at g;cases g
 rw[h.inv.get hk] at g;cases g;refine zW ((h.scell hk)) ?_;refine zW hs ?_;refine h.map.get zcY k (fun g=>?_) (fun y j g=>?_)
 ·rw[h.inv.get hk] at g;cases g
 rw[h.inv.get hk] at g;cases g;refine zR ?_;refine(h.opn hk).stoV 0 rfl oS fun M1 h1=>?_
 refine zR ?_;obtain⟨B',hb,hsr,h2⟩:=h1.take 3 rfl;refine⟨B',(P.sp k).o,(P.sp k).c,P.setSp k { P.sp k with o:=none,c:=0 },rfl,hb,hsr,NP.same.set P k (x':={ P.sp k with o:=none,c:=0 }) rfl oM,h.cls hk (h2.c ?_) rfl⟩;simp[zd,ziI]
theorem zqY {a:Option Addr} {c:Nat} {l:List zcO} (h:(zmS a c l).ok B M):∃ L,NewSl B 82 5 a l.length c L M∧MsgsB B L l:=h
theorem zqZ (h:NodeAt B0 M0 S0 B M P X R):CallsM prog 13 [ptr P.n] M fun v M'=>∃ B' a c P',v = .slice a X.told.length c∧B.le B'∧Elems B' 5 a X.told.length (MsgR B') X.told∧P.same P' 0 0∧NodeAt B0 M0 S0 B' M' P' { X with told:=[] } R:=by
 refine zk0 oS ?_;have hs:=h.self
 refine zW hs ?_;refine h.at'.stoV 0 rfl oS fun M1 h1=>?_
 refine zR ?_;obtain⟨L,hN,hL⟩:=zqY (h.at'.part 5 rfl);have hN1:∃ L,NewSl B 82 5 P.ta X.told.length P.tc L M1∧MsgsB B L X.told:=zqY (h1.part 5 rfl)
 obtain⟨L1,hN2,hL2⟩:=hN1;obtain⟨B',hb,hle,hsr,t⟩:=zqH hN2;refine⟨B',P.ta,P.tc,{ P with ta:=none,tc:=0 },rfl,hb,?_,⟨rfl,fun _=>rfl,by simp,by simp,rfl⟩,?_,h.inv.nbs,h.inv.len,h.inv.key,h.inv.val⟩
 ·obtain⟨css,rfl,e2,e3,e4⟩:=hL2.le hb;unfold Elems;exact⟨css,hsr,e2,rfl,e3,e4⟩
 ·refine h1.turn 5 rfl (qs:=[zmS none 0 []]) ⟨t.bb,t.keep,t.fresh,fun y hy=>?_⟩ ⟨hle,fun q hq=>?_,Yay ..⟩
  ·obtain⟨q,hq,hy⟩:=hy;rw[Y0.1 hq] at hy;obtain⟨r,hr,_⟩:=hy;cases hr
  ·rw[Y0.1 hq];exact⟨[],(Yaw M1 _ _).mono hle,MsgsB.nil _⟩
theorem ziL (h:NodeAt B0 M0 S0 B M P X R) (hN:P.N≤4611686018427387904) (hmk:X.C.X.sn.length≤1048576):CallsM prog 11 [ptr P.n] M fun v M'=>M.le M'∧zAH M M' X.C.X v:=by
 have hC:CuAt B M P.c P.p P.N P.H X.C:=h.at'.part 2 rfl;have hs:=h.self
 refine znU oS ?_;refine zW hs ?_;refine(zyZ hC hN hmk).mono ?_;rintro v M1 ⟨hle,hS⟩;obtain⟨ua,uc,ha,hc,ms,ma,mc,mk,rfl,hr⟩:=hS.ex;refine zR ?_;exact⟨hle,⟨ua,uc,ha,hc,ms,ma,mc,mk,rfl,hr⟩⟩
end
end
section
variable {B0 M0 B M B' M':Mem} {S0:Nat→Prop} {R:List Pt} {ps:List Pt}
def zln (X:NodX) (k:Int):List Int:=(List.range 64).map fun (d:Nat)=>ztl X.me X.nb X.tab k d
def zeG (X:NodX) (k:Int):NodX:=X.setSd k { X.sd k with L:=zcR (X.sd k).L }
def zce (X:NodX) (k:Int):NodX:=if (X.sd k).L.up then (zbn X k ⟨4,0,zaV,[],zln X k⟩).1 else X
def zeH (X:NodX):NodX:=X.nb.foldl zeG { X with ticks:=inc X.ticks,tab:=zgh X.tab }
def zbr (X:NodX):NodX:={ zeH X with dsk:=fun j=>((zeH X).dsk j).bind zd7 }
def zea (X:NodX):NodX:=if Int.tmod (inc X.ticks) X.set.timer=0 then X.nb.foldl zce (zbr X) else zbr X
def zkK (X:NodX):NodX×Int:=if X.C.w.failed then (X,9) else (zc1 (zea X),0)
theorem zuk (X:za8):(zcR X).out.length≤X.out.length+1∧(zcR X).inn=X.inn:=by
 unfold zcR;dsimp only;split
 ·simp
 split
 ·simp
 split
 ·simp[zfN,LnkR.add]
 split
 ·split
  ·simp[zjn,zfN,zb3,LnkR.add]
  ·simp[zcu,LnkR.add]
 split
 ·simp[LnkR.add]
 ·simp
theorem zoC:∀ (l:List Int) (X:NodX),(l.foldl zeG X).nb=X.nb∧(l.foldl zeG X).C=X.C∧(l.foldl zeG X).set=X.set∧(l.foldl zeG X).ticks=X.ticks∧∀ j,((l.foldl zeG X).sd j).L.out.length≤(X.sd j).L.out.length+l.length∧((l.foldl zeG X).sd j).L.inn=(X.sd j).L.inn∧((l.foldl zeG X).sd j).out=(X.sd j).out
 | [],X=>⟨rfl,rfl,rfl,rfl,fun j=>⟨Yd _,rfl,rfl⟩⟩
 | a::r,X=>by
  rw[Yal];obtain⟨h1,h2,h3,h4,h5⟩:=zoC r (zeG X a);refine⟨h1,h2,h3,h4,fun j=>?_⟩;have h6:=h5 j
  have h7:((zeG X a).sd j).L.out.length≤(X.sd j).L.out.length+1∧((zeG X a).sd j).L.inn=(X.sd j).L.inn∧((zeG X a).sd j).out=(X.sd j).out:=by
   unfold zeG NodX.setSd;dsimp only;split
   ·rename_i e;rw[e];exact⟨(zuk _).1,(zuk _).2,rfl⟩
   ·simp
  simp only[Ym];exact⟨by omega,h6.2.1.trans h7.2.1,h6.2.2.trans h7.2.2⟩
theorem zwQ:∀ (l:List Int) (X:NodX),(l.foldl zce X).nb=X.nb∧(l.foldl zce X).C=X.C∧∀ j,((l.foldl zce X).sd j).L.out.length≤(X.sd j).L.out.length+65*l.length∧((l.foldl zce X).sd j).L.inn=(X.sd j).L.inn∧((l.foldl zce X).sd j).out=(X.sd j).out
 | [],X=>⟨rfl,rfl,fun j=>⟨Yd _,rfl,rfl⟩⟩
 | a::r,X=>by
  rw[Yal];obtain⟨h1,h2,h5⟩:=zwQ r (zce X a)
  have h8:(zce X a).nb=X.nb∧(zce X a).C=X.C:=by
   unfold zce zbn;split
   ·split<;>exact⟨rfl,rfl⟩
   ·exact⟨rfl,rfl⟩
  refine⟨h1.trans h8.1,h2.trans h8.2,fun j=>?_⟩;have h6:=h5 j
  have h7:((zce X a).sd j).L.out.length≤(X.sd j).L.out.length+65∧((zce X a).sd j).L.inn=(X.sd j).L.inn∧((zce X a).sd j).out=(X.sd j).out:=by
   unfold zce;split
   ·exact zoB _ _ _ _
   ·simp
  simp only[Ym];exact⟨by omega,h6.2.1.trans h7.2.1,h6.2.2.trans h7.2.2⟩
theorem zHd (X:NodX) (hl:X.nb.length≤64) (j:Int):(zea X).nb=X.nb∧(zea X).C=X.C∧((zea X).sd j).L.out.length≤(X.sd j).L.out.length+4224∧((zea X).sd j).L.inn=(X.sd j).L.inn∧((zea X).sd j).out=(X.sd j).out:=by
 obtain⟨h1,h2,h3,h4,h5⟩:=zoC X.nb { X with ticks:=inc X.ticks,tab:=zgh X.tab };have h6:=h5 j
 unfold zea;split
 ·obtain⟨q1,q2,q3⟩:=zwQ X.nb (zbr X);have q4:=q3 j
  refine⟨q1.trans h1,q2.trans h2,?_,q4.2.1.trans h6.2.1,q4.2.2.trans h6.2.2⟩;have:((zbr X).sd j).L.out.length≤(X.sd j).L.out.length+X.nb.length:=h6.1
  omega
 ·refine⟨h1,h2,?_,h6.2.1,h6.2.2⟩;have:((zbr X).sd j).L.out.length≤(X.sd j).L.out.length+X.nb.length:=h6.1
  omega
section
variable {P:NP} {X:NodX} {k:Int}
theorem zwR (h:NodeAt B0 M0 S0 B M P X R) (hN:P.N≤4611686018427387904) (hK:P.K≤999999999000) {q:Nat} (hr:zmX X q) (hq:q≤10000000000000) (ht:1≤X.set.timer∧X.set.timer≤64) :
  CallsM prog 31 [ptr P.n] M fun v M'=>v = .int .i64 (zkK X).2∧NTo B0 M0 S0 B M' P (zkK X).1 R 0 256:=by
 have hnl:=h.inv.len;refine zo8 oS ?_;refine zJ (zkJ h) ?_;unfold zj7 zkK;cases hf:X.C.w.failed
 rotate_left
 ·refine zR ?_;exact⟨rfl,B,P,Ya _,NP.same.refl P oM,h⟩
 refine zW h.self ?_;refine obw ?_;refine zR ?_;refine h.at'.stoV 0 rfl oS fun M1 h1=>?_
 have h2:NodeAt B0 M0 S0 B M1 P { X with ticks:=inc X.ticks } R:=⟨h1.c (by rfl),h.inv.nbs,h.inv.len,h.inv.key,h.inv.val⟩
 clear h1;refine zW h2.self ?_;refine(zx8 h2.at' 3 rfl).mono ?_;rintro v M2 ⟨rfl,h3⟩;have h4:NodeAt B0 M0 S0 B M2 P { X with ticks:=inc X.ticks,tab:=zgh X.tab } R:=⟨h3,h.inv.nbs,h.inv.len,h.inv.key,h.inv.val⟩
 clear h3;refine zM (zo0 h4.self h4.map h4.inv) ?_;rintro v M3 ⟨an,cn,rfl,hN1⟩;obtain⟨B1,eB1⟩:=oI (newB B M2 M3);have hB1:B.le B1:=by rw[eB1];exact zeN h4.le
 have hnear:SrcOk B1 1 an X.nb.length (X.nb.map zi):=by rw[eB1];exact zc5 hN1.src fun r hr=>(hN1.block hr).1
 have h5:NodeAt B0 M0 S0 B1 M3 P { X with ticks:=inc X.ticks,tab:=zgh X.tab } R:=by rw[eB1];exact h4.upN hN1.le
 let Y (i:Nat):NodX:=(X.nb.take i).foldl zeG { X with ticks:=inc X.ticks,tab:=zgh X.tab }
 have hY:∀ i (hi:i<X.nb.length),Y (i+1)=zeG (Y i) X.nb[i]:=fun i hi=>by
  simp only[Y,Y1,Yb hi,Ya0];rfl
 refine zR ?_
 refine zak (σ:=Nat×Mem×Mem×NP) [28] (fun y=>[(28,.int .i64 y.1)]) (fun _=>[]) (fun y=>y.2.1)
  (fun|⟨i,Mc,Bc,Pc⟩=>i≤X.nb.length∧NodeAt B0 M0 S0 Bc Mc Pc (Y i) R∧B1.le Bc∧P.same Pc 0 0) (fun y=>X.nb.length - y.1)
  ⟨0,M3,B1,P⟩ ⟨Y5 _,h5,Ya _,NP.same.refl P oM⟩ zS ?_
 rintro ⟨i,Mc,Bc,Pc⟩ ⟨hi,hc,hbc,hsm⟩;obtain⟨y1,y2,y3,y4,y5⟩:=zoC (X.nb.take i) { X with ticks:=inc X.ticks,tab:=zgh X.tab };have hself:Mc.has P.n 96 (zdF Pc (Y i)):=by rw[←hsm.n];exact hc.self
 refine brn (fun g=>?_) (fun g=>?_)
 ·have hlt:i<X.nb.length:=by have:=Zd0 g;dsimp only at this;omega
  obtain⟨hk1,b1,o1,e1,hr1⟩:=((hnear.le hbc).le hc.le).at hlt;have hYi:=hY i hlt
  obtain⟨k,hk⟩:=oI (X.nb[i]);rw[←hk] at hYi hr1;have hkx:k∈X.nb:=by rw[hk];exact Yai hlt
  have hkm:k∈(Y i).nb:=by rw[y1];exact hkx
  refine ob (by simp_all) ?_;refine atp e1 ?_;refine zR ?_;refine on hr1 ?_;refine zW hself ?_;refine hc.map.get zcY k (fun g=>?_) (fun y j g=>?_)
  ·rw[hc.inv.get hkm] at g;cases g
  rw[hc.inv.get hkm] at g;cases g;refine zW ((hc.scell hkm)) ?_;refine(zAb (zfW (hc.opn hkm)) ?_).mono ?_
  ·have:=(y5 k).1;rw[(hr k hkx).1] at this;have hll:(X.nb.take i).length≤64:=by simp;omega
   have e0:(Y i).sd k=((X.nb.take i).foldl zeG { X with ticks:=inc X.ticks,tab:=zgh X.tab }).sd k:=rfl;rw[e0];simp at this;omega
  rintro v M4 ⟨rfl,h6⟩;obtain⟨B5,P5,hb5,hs5,h7⟩:=hc.lnk hkm h6;have h8:NodeAt B0 M0 S0 B5 M4 P5 (Y (i+1)) R:=by rw[hYi];exact h7
  refine zR ?_;refine obr (inR_i64 (by omega)) ?_;exact⟨⟨i+1,M4,B5,P5⟩,⟨hlt,h8,Yc hbc hb5,by have:=hsm.trans hs5;simpa using this⟩,by omega,zS⟩
 have hge:i=X.nb.length:=by have:=Zd1 g;dsimp only at this;omega
 subst hge;have eY:Y X.nb.length=zeH X:=by simp only[Y,zeH];rw[Yaj]
 rw[eY] at hc hself;refine zW hself ?_;refine(zCQ hc.at' 4 rfl).mono ?_;rintro v M5 ⟨rfl,h6⟩;have h7:NodeAt B0 M0 S0 Bc M5 Pc (zbr X) R:=⟨h6,hc.inv.nbs,hc.inv.len,hc.inv.key,hc.inv.val⟩
 obtain⟨w1,w2,w3,w4,w5⟩:=zoC X.nb { X with ticks:=inc X.ticks,tab:=zgh X.tab };have t1:(zbr X).nb=X.nb:=w1
 have t3:(zbr X).set=X.set:=w3;have t4:(zbr X).ticks=inc X.ticks:=w4
 have hs7:M5.has P.n 96 (zdF Pc (zbr X)):=by rw[←hsm.n];exact h7.self
 unfold zdF at hs7;rw[t3,t4] at hs7;refine zR ?_;refine on (hs7.c1 rfl) ?_;refine zR ?_;refine on (hs7.c1 rfl) ?_;refine zR ?_;refine ob oM ?_;have hb3:∀ k∈X.nb,(X.sd k).L.out=[]∧(X.sd k).L.inn=[]∧(X.sd k).out.length≤q:=hr
 refine brn (fun g=>?_) (fun g=>?_)
 rotate_left
 have g1:¬Int.tmod (inc X.ticks) X.set.timer=0:=Zd1 g;have e3:zea X=zbr X:=by unfold zea;rw[if_neg g1]
 obtain⟨PZ,hPZ⟩:=oI Pc;obtain⟨BZ,hBZ⟩:=oI Bc;have hz:NodeAt B0 M0 S0 BZ M5 PZ (zea X) R:=by rw[e3,hBZ,hPZ];exact h7
 have hbZ1:Bc.le BZ:=by rw[hBZ];exact Ya _
 have hsmZ:P.same PZ 0 0:=by rw[hPZ];exact hsm
 rotate_left
 have g1:Int.tmod (inc X.ticks) X.set.timer=0:=Zd0 g;have e3:zea X=X.nb.foldl zce (zbr X):=by unfold zea;rw[if_pos g1]
 have hs8:M5.has P.n 96 (zdF Pc (zbr X)):=by rw[←hsm.n];exact h7.self
 refine zM (zo0 hs8 h7.map h7.inv) ?_;rintro v M6 ⟨an2,cn2,rfl,hN2⟩;rw[t1] at hN2 ⊢;obtain⟨B2,eB2⟩:=oI (newB Bc M5 M6);have hB2:Bc.le B2:=by rw[eB2];exact zeN h7.le
 have hnear2:SrcOk B2 1 an2 X.nb.length (X.nb.map zi):=by rw[eB2];exact zc5 hN2.src fun r hr=>(hN2.block hr).1
 have h8:NodeAt B0 M0 S0 B2 M6 Pc (zbr X) R:=by rw[eB2];exact h7.upN hN2.le
 refine zR ?_
 refine zak (σ:=Nat×Mem×Mem×NP) [62] (fun y=>[(62,.int .i64 y.1)]) (fun _=>[]) (fun y=>y.2.1)
  (fun|⟨i,Md,Bd,Pd⟩=>i≤X.nb.length∧NodeAt B0 M0 S0 Bd Md Pd ((X.nb.take i).foldl zce (zbr X)) R∧B2.le Bd∧P.same Pd 0 0) (fun y=>X.nb.length - y.1)
  ⟨0,M6,B2,Pc⟩ ⟨Y5 _,h8,Ya _,hsm⟩ zS ?_
 rintro ⟨i,Md,Bd,PZ⟩ ⟨hi,hd,hbd,hsmZ⟩;obtain⟨W,hW⟩:=oI ((X.nb.take i).foldl zce (zbr X));obtain⟨y1,y2,y5⟩:=zwQ (X.nb.take i) (zbr X);rw[←hW] at hd y1 y5;have hselfd:Md.has P.n 96 (zdF PZ W):=by rw[←hsmZ.n];exact hd.self
 refine brn (fun g=>?_) (fun g=>?_)
 ·have hlt:i<X.nb.length:=by have:=Zd0 g;dsimp only at this;omega
  obtain⟨hk1,b1,o1,e1,hr1⟩:=((hnear2.le hbd).le hd.le).at hlt
  have hW1:(X.nb.take (i+1)).foldl zce (zbr X)=zce W X.nb[i]:=by
   rw[hW,Y1,Yb hlt,Ya0];rfl
  obtain⟨k,hk⟩:=oI (X.nb[i]);rw[←hk] at hW1 hr1;have hkx:k∈X.nb:=by rw[hk];exact Yai hlt
  have hkm:k∈W.nb:=by rw[y1,t1];exact hkx
  refine ob (by omega) ?_;refine atp e1 ?_;refine zR ?_;refine on hr1 ?_;refine zW hselfd ?_;refine hd.map.get zcY k (fun g=>?_) (fun y j g=>?_)
  ·rw[hd.inv.get hkm] at g;cases g
  rw[hd.inv.get hkm] at g;cases g;refine zW ((hd.scell hkm)) ?_;refine zJ (zv7 (zfW (hd.opn hkm))) ?_;cases hup:(W.sd k).L.up with
  | false=>
   have e5:zce W k=W:=by unfold zce;rw[if_neg (by rw[hup];decide)]
   refine zR ?_;refine obr (inR_i64 (by omega)) ?_;exact⟨⟨i+1,Md,Bd,PZ⟩,⟨hlt,by simp_all,hbd,hsmZ⟩,by omega,zS⟩
  | true=>
   have e5:zce W k=(zbn W k ⟨4,0,zaV,[],zln W k⟩).1:=by unfold zce;rw[if_pos hup]
   refine zW hselfd ?_;refine(zAK (hd.at'.part 3 rfl) hkm).mono ?_;rintro v M7 ⟨av,rfl,hNv⟩;have h9:=hd.up hNv.le
   have hvl:(zln W k).length=64:=by simp[zln]
   have hp:=zed h9 hkm ⟨4,0,zaV,[],zln W k⟩ (pD:=none) (kD:=0) (pC:=av) (kC:=64) ⟨zbR _,by show SrcOk M7 1 av (zln W k).length _;rw[hvl];exact hNv.src,by show 0≤2097152;decide,by show (zln W k).length≤_;omega⟩ ?_
   rotate_left
   ·have g4:=(y5 k).1;obtain⟨u1,u2,u3,u4,u5⟩:=zoC X.nb { X with ticks:=inc X.ticks,tab:=zgh X.tab };have g5:((zbr X).sd k).L.out.length≤(X.sd k).L.out.length+X.nb.length:=(u5 k).1
    rw[(hr k hkx).1] at g5;have hll:(X.nb.take i).length≤64:=by simp;omega
    simp at g5;omega
   have e6:(Word.w ⟨4,0,zaV,[],zln W k⟩ none 0 av 64).v = .agg #[.int .i64 4,.int .i64 0,.int .i64 0,.int .i64 0,.int .i64 0,.int .i64 0,.slice none 0 0,.slice av 64 64]:=by
    unfold Word.w Go.Proofs.YtlgbofpennelhaaGreat.W.v;dsimp only;rw[hvl];rfl
   rw[e6,hsmZ.n] at hp;refine zR ?_;refine hp.mono ?_;rintro v M8 ⟨rfl,B8,P8,hb8,hs8,h10⟩;refine zR ?_;refine obr (inR_i64 (by omega)) ?_;exact⟨⟨i+1,M8,B8,P8⟩,⟨hlt,by simp_all,Yc hbd hb8,by have:=hsmZ.trans hs8;simpa using this⟩,by omega,zS⟩
 have hge:i=X.nb.length:=by have:=Zd1 g;dsimp only at this;omega
 subst hge;rw[Yaj,←e3] at hW;rw[hW] at hd;have hz:NodeAt B0 M0 S0 Bd Md PZ (zea X) R:=hd
 have hbZ1:Bc.le Bd:=Yc hB2 hbd
 all_goals
  have hbZ:∀ k∈(zea X).nb,((zea X).sd k).L.out.length+20000≤1000000000∧((zea X).sd k).out.length≤10000000000000:=fun k hk=>by
   obtain⟨g1,g2,g3,g4,g5⟩:=zHd X hnl k;rw[g1] at hk;obtain⟨r1,r2,r3⟩:=hr k hk;rw[r1] at g3;rw[g5];simp at g3;omega
  have hsn:PZ.n=P.n:=hsmZ.n;have hwk:=zmW hz (by have:=hsmZ.N;omega) (by have:=hsmZ.K;omega) hbZ
  rw[hsn] at hwk;refine zR ?_;refine hwk.mono ?_;rintro v M9 ⟨rfl,B9,P9,hb9,hs9,h9⟩;refine zR ?_;exact⟨rfl,B9,P9,Yc (Yc hB1 hbc) (Yc hbZ1 hb9),by have:=hsmZ.trans hs9;simpa using this,h9⟩
end
end
section
variable {B0 M0 B M B' M':Mem} {S0:Nat→Prop} {R:List Pt} {ps:List Pt}
def zc2 (X:NodX) (w:Word):NodX×Int:=
 if w.id.d=X.me then (if zkI X.C w.id=true then (X,0) else
  ({ X with C:=(zad X.C 4 w.id [] true).1,told:=if (zad X.C 4 w.id [] true).2=0 then X.told++[⟨w.id,w.data⟩] else X.told },if (zad X.C 4 w.id [] true).2=5 then 0 else (zad X.C 4 w.id [] true).2))
 else if zfQ X.C.X.S.l w.id=false then ({ X with C:=(zad X.C 2 w.id w.data true).1 },(zad X.C 2 w.id w.data true).2)
 else (X,if isF X.dsk w.id=true then 7 else 0)
def zfX (X:NodX) (k:Int) (w:Word):NodX:=if (zc2 X w).1.C.w.failed=true then (zc2 X w).1 else (zbn (zc2 X w).1 k ⟨if (zc2 X w).2=0 then 2 else 3,w.n,w.id,[],[]⟩).1
theorem zqg (X:NodX) (w:Word):(zc2 X w).1.nb=X.nb∧(zc2 X w).1.sd=X.sd:=by
 unfold zc2;split
 ·split<;>exact⟨rfl,rfl⟩
 ·split<;>exact⟨rfl,rfl⟩
section
variable {P:NP} {X:NodX} {k:Int}
theorem zJ1 (h:NodeAt B0 M0 S0 B M P X R) {m:zcO} {cs:List Value} (hm:MsgR B cs m) (hl:cs.length=5) (ht:X.told.length≤1000000000000) (h1:∀ u∈cs,u.oneCell'=true) {K:Option Addr→Nat→Mem→Prop}
  (hk:∀ a' c' M1,At B0 M0 S0 B M1 (rpl ((zgT P X++zfV P X)++R) 5 [zmS a' c' (X.told++[m])])→K a' c' M1):zZ 82 5 56 P.ta X.told.length P.tc 1 cs M K:=by
 obtain⟨L,hN,css,rfl,e2,e3,e4⟩:=zqY (h.at'.part 5 rfl);have h2:=h.at'.view 5 rfl (q:=zaB 82 5 P.ta X.told.length P.tc css.flatten) hN fun y hy=>hy
 refine h2.appV 5 rfl oM (by simp[maxLen];omega) h1 fun a' c' M1 hc h3=>hk a' c' M1 ?_
 have h4:NewSl B 82 5 a' (X.told.length+1) c' (css.flatten++cs) M1:=h3.part 5 rfl;refine h3.view 5 rfl (q:=zmS a' c' (X.told++[m])) ?_ fun y hy=>hy
 refine⟨css.flatten++cs,by simpa using h4,css++[cs],by simp,by simp[e2],fun x hx=>?_,fun i x y hx hy=>?_⟩
 ·rcases Yy.1 hx with hx|hx
  ·exact e3 x hx
  ·rw[Y0.1 hx];exact hl
 ·by_cases hi:i<css.length
  ·rw[Yag hi] at hx;rw[Yag oM] at hy;exact e4 i x y hx hy
  ·rw[Yan oM] at hx;rw[Yan oM] at hy;rw[e2] at hx;cases hj:i - X.told.length with
   | zero=>rw[hj] at hx hy;cases hx;cases hy;exact hm
   | succ j=>rw[hj] at hx;cases hx
theorem zAQ (h:NodeAt B0 M0 S0 B M P X R) (hk:k∈X.nb) (hN:P.N<4611686018427387904) (ht:X.told.length≤1000000000000) (ho:(X.sd k).L.out.length+65≤1000000000) (w:Word) {pD pC:Option Addr} {kD kC:Nat} (hw:(w.w pD kD pC kC).Ok B) (hd:w.data.length≤1048576) :
  CallsM prog 194 [ptr P.n,.int .i64 k,(w.w pD kD pC kC).v] M fun v M'=>v = .tuple #[]∧NTo B0 M0 S0 B M' P (zfX X k w) R 1 0:=by
 have hC:CuAt B M P.c P.p P.N P.H X.C:=h.at'.part 2 rfl;have hds:SrcOk B 1 pD w.data.length (w.data.map zc):=hw.data
 obtain⟨e,he⟩:=oI ((zc2 X w).2);obtain⟨Z,hZ⟩:=oI ((zc2 X w).1);have hO:zfX X k w=if Z.C.w.failed=true then Z else (zbn Z k ⟨if e=0 then 2 else 3,w.n,w.id,[],[]⟩).1:=by unfold zfX;rw[←he,←hZ]
 have hs1:=zqg X w;rw[←hZ] at hs1;refine zmd oS ?_;refine zW h.self ?_;refine brn (fun g=>?_) (fun g=>?_)
 ·have g1:w.id.d=X.me:=Zd0 g;have hself:=h.self
  unfold zc2 at he hZ;rw[if_pos g1] at he hZ;refine zW h.self ?_;refine(zIY hC w.id).mono ?_;rintro v M1 ⟨rfl,hle1⟩;have h1:=h.up hle1
  cases hsn:zkI X.C w.id with
  | true=>
   rw[if_pos hsn] at he hZ;obtain⟨Mz,hMz⟩:=oI M1;obtain⟨Bz,hBz⟩:=oI B;obtain⟨Pz,hPz⟩:=oI P;have hz:NodeAt B0 M0 S0 Bz Mz Pz Z R:=by rw[hZ,hMz,hBz,hPz];exact h1
   have hsmz:P.same Pz 1 0:=by rw[hPz];exact NP.same.refl P oM
   have hbz:B.le Bz:=by rw[hBz];exact Ya _
   have he:e=0:=he;rw[if_pos he] at hO;rw[←hMz];have hselfz:Mz.has P.n 96 (zdF Pz Z):=by rw[←hsmz.n];exact hz.self
   have hCz:CuAt Bz Mz Pz.c Pz.p Pz.N Pz.H Z.C:=hz.at'.part 2 rfl;refine zW hselfz ?_;refine zJ (zeA hCz) ?_;cases hfz:Z.C.w.failed with
   | true=>
    rw[if_pos hfz] at hO;refine zR ?_;exact⟨rfl,Bz,Pz,hbz,hsmz,by rw[hO];exact hz⟩
   | false=>
    rw[if_neg (by rw[hfz];decide)] at hO;have hp:=zed hz (k:=k) (by rw[hs1.1];exact hk) ⟨2,w.n,w.id,[],[]⟩ (pD:=none) (kD:=0) (pC:=none) (kC:=0) ⟨zbR _,zbR _,by show 0≤2097152;decide,by show 0≤2097152;decide⟩ (by rw[hs1.2];exact ho)
    rw[hsmz.n] at hp;refine zR ?_;refine hp.mono ?_;rintro v M9 ⟨rfl,B9,P9,hb9,hs9,h9⟩;refine zR ?_;exact⟨rfl,B9,P9,Yc hbz hb9,by have:=hsmz.trans hs9;simpa using this,by rw[hO];exact h9⟩
  | false=>
   rw[if_neg (by rw[hsn];decide)] at he hZ;refine zW h1.self ?_;refine(zwJ h1.at' 2 rfl oM w.id).mono ?_;rintro v M2 ⟨H2,rfl,h2⟩;have h3:=h1.cust h2
   obtain⟨r,hr⟩:=oI ((zad X.C 4 w.id [] true).2);rw[←hr] at he hZ ⊢;have hs3:P.same { P with N:=P.N+1,H:=H2 } 1 0:=⟨rfl,fun _=>rfl,Yae _,Yd _,rfl⟩
   refine zR ?_;refine brn (fun g3=>?_) (fun g3=>?_)
   ·have g4:r=0:=Zd0 g3;rw[if_pos g4] at hZ;have he:e=r:=by rw[he];show (if r=5 then 0 else r)=r;rw[if_neg oM]
    have hZ:Z={ X with C:=(zad X.C 4 w.id [] true).1,told:=X.told++[⟨w.id,w.data⟩] }:=hZ;have hself3:M2.has P.n 96 (zdF { P with N:=P.N+1,H:=H2 } { X with C:=(zad X.C 4 w.id [] true).1 }):=h3.self
    refine zW hself3 ?_;refine zJ1 (m:=⟨w.id,w.data⟩) h3 ⟨pD,w.data.length,kD,rfl,hds,by omega⟩ rfl ht oC fun a4 c4 M4 h4=>?_
    refine zR ?_;refine h4.stoV 0 rfl oS fun M5 h5=>?_
    have hz0:NodeAt B0 M0 S0 B M5 { P with N:=P.N+1,H:=H2,ta:=a4,tc:=c4 } Z R:=by
     rw[hZ];refine⟨h5.c ?_,h.inv.nbs,h.inv.len,h.inv.key,h.inv.val⟩;simp[zd,zdF]
    obtain⟨Mz,hMz⟩:=oI M5;obtain⟨Bz,hBz⟩:=oI B;obtain⟨Pz,hPz⟩:=oI ({ P with N:=P.N+1,H:=H2,ta:=a4,tc:=c4 });rw[←hMz,←hBz,←hPz] at hz0;have hz:=hz0
    have hsmz:P.same Pz 1 0:=by rw[hPz];exact⟨rfl,fun _=>rfl,Yae _,Yd _,rfl⟩
    have hbz:B.le Bz:=by rw[hBz];exact Ya _
    obtain rfl:e=r:=he;refine zR ?_;rw[←hMz];refine brn_f (decide_eq_false oM) ?_;have hselfz:Mz.has P.n 96 (zdF Pz Z):=by rw[←hsmz.n];exact hz.self
    have hCz:CuAt Bz Mz Pz.c Pz.p Pz.N Pz.H Z.C:=hz.at'.part 2 rfl;refine zW hselfz ?_;refine zJ (zeA hCz) ?_;cases hfz:Z.C.w.failed with
    | true=>
     rw[if_pos hfz] at hO;refine zR ?_;exact⟨rfl,Bz,Pz,hbz,hsmz,by rw[hO];exact hz⟩
    | false=>
     rw[if_neg (by rw[hfz];decide)] at hO;refine zR ?_;refine brn (fun g9=>?_) (fun g9=>?_)
     ·have g8:¬e=0:=by simpa using g9
      rw[if_neg g8] at hO;have hp:=zed hz (k:=k) (by rw[hs1.1];exact hk) ⟨3,w.n,w.id,[],[]⟩ (pD:=none) (kD:=0) (pC:=none) (kC:=0) ⟨zbR _,zbR _,by show 0≤2097152;decide,by show 0≤2097152;decide⟩ (by rw[hs1.2];exact ho)
      rw[hsmz.n] at hp;refine zR ?_;refine hp.mono ?_;rintro v M9 ⟨rfl,B9,P9,hb9,hs9,h9⟩;refine zR ?_;exact⟨rfl,B9,P9,Yc hbz hb9,by have:=hsmz.trans hs9;simpa using this,by rw[hO];exact h9⟩
     ·have g8:e=0:=by simpa using g9
      rw[if_pos g8] at hO;have hp:=zed hz (k:=k) (by rw[hs1.1];exact hk) ⟨2,w.n,w.id,[],[]⟩ (pD:=none) (kD:=0) (pC:=none) (kC:=0) ⟨zbR _,zbR _,by show 0≤2097152;decide,by show 0≤2097152;decide⟩ (by rw[hs1.2];exact ho)
      rw[hsmz.n] at hp;refine zR ?_;refine hp.mono ?_;rintro v M9 ⟨rfl,B9,P9,hb9,hs9,h9⟩;refine zR ?_;exact⟨rfl,B9,P9,Yc hbz hb9,by have:=hsmz.trans hs9;simpa using this,by rw[hO];exact h9⟩
   ·have g4:¬r=0:=Zd1 g3;rw[if_neg g4] at hZ;have hz0:NodeAt B0 M0 S0 B M2 { P with N:=P.N+1,H:=H2 } Z R:=by rw[hZ];exact h3
    obtain⟨Mz,hMz⟩:=oI M2;obtain⟨Bz,hBz⟩:=oI B;obtain⟨Pz,hPz⟩:=oI ({ P with N:=P.N+1,H:=H2 });rw[←hMz,←hBz,←hPz] at hz0;have hz:=hz0
    have hsmz:P.same Pz 1 0:=by rw[hPz];exact hs3
    have hbz:B.le Bz:=by rw[hBz];exact Ya _
    refine zR ?_;rw[←hMz];refine brn (fun g5=>?_) (fun g5=>?_)
    ·have g6:r=5:=Zd0 g5;have he:e=0:=by rw[he];exact if_pos g6
     rw[if_pos he] at hO;have hselfz:Mz.has P.n 96 (zdF Pz Z):=by rw[←hsmz.n];exact hz.self
     have hCz:CuAt Bz Mz Pz.c Pz.p Pz.N Pz.H Z.C:=hz.at'.part 2 rfl;refine zW hselfz ?_;refine zJ (zeA hCz) ?_;cases hfz:Z.C.w.failed with
     | true=>
      rw[if_pos hfz] at hO;refine zR ?_;exact⟨rfl,Bz,Pz,hbz,hsmz,by rw[hO];exact hz⟩
     | false=>
      rw[if_neg (by rw[hfz];decide)] at hO;have hp:=zed hz (k:=k) (by rw[hs1.1];exact hk) ⟨2,w.n,w.id,[],[]⟩ (pD:=none) (kD:=0) (pC:=none) (kC:=0) ⟨zbR _,zbR _,by show 0≤2097152;decide,by show 0≤2097152;decide⟩ (by rw[hs1.2];exact ho)
      rw[hsmz.n] at hp;refine zR ?_;refine hp.mono ?_;rintro v M9 ⟨rfl,B9,P9,hb9,hs9,h9⟩;refine zR ?_;exact⟨rfl,B9,P9,Yc hbz hb9,by have:=hsmz.trans hs9;simpa using this,by rw[hO];exact h9⟩
    ·have g6:¬r=5:=Zd1 g5;obtain rfl:e=r:=by rw[he];exact if_neg g6
     have hselfz:Mz.has P.n 96 (zdF Pz Z):=by rw[←hsmz.n];exact hz.self
     have hCz:CuAt Bz Mz Pz.c Pz.p Pz.N Pz.H Z.C:=hz.at'.part 2 rfl;refine zW hselfz ?_;refine zJ (zeA hCz) ?_;cases hfz:Z.C.w.failed with
     | true=>
      rw[if_pos hfz] at hO;refine zR ?_;exact⟨rfl,Bz,Pz,hbz,hsmz,by rw[hO];exact hz⟩
     | false=>
      rw[if_neg (by rw[hfz];decide)] at hO;refine zR ?_;refine brn (fun g9=>?_) (fun g9=>?_)
      ·have g8:¬e=0:=by simpa using g9
       rw[if_neg g8] at hO;have hp:=zed hz (k:=k) (by rw[hs1.1];exact hk) ⟨3,w.n,w.id,[],[]⟩ (pD:=none) (kD:=0) (pC:=none) (kC:=0) ⟨zbR _,zbR _,by show 0≤2097152;decide,by show 0≤2097152;decide⟩ (by rw[hs1.2];exact ho)
       rw[hsmz.n] at hp;refine zR ?_;refine hp.mono ?_;rintro v M9 ⟨rfl,B9,P9,hb9,hs9,h9⟩;refine zR ?_;exact⟨rfl,B9,P9,Yc hbz hb9,by have:=hsmz.trans hs9;simpa using this,by rw[hO];exact h9⟩
      ·have g8:e=0:=by simpa using g9
       rw[if_pos g8] at hO;have hp:=zed hz (k:=k) (by rw[hs1.1];exact hk) ⟨2,w.n,w.id,[],[]⟩ (pD:=none) (kD:=0) (pC:=none) (kC:=0) ⟨zbR _,zbR _,by show 0≤2097152;decide,by show 0≤2097152;decide⟩ (by rw[hs1.2];exact ho)
       rw[hsmz.n] at hp;refine zR ?_;refine hp.mono ?_;rintro v M9 ⟨rfl,B9,P9,hb9,hs9,h9⟩;refine zR ?_;exact⟨rfl,B9,P9,Yc hbz hb9,by have:=hsmz.trans hs9;simpa using this,by rw[hO];exact h9⟩
 ·have g1:¬w.id.d=X.me:=Zd1 g;unfold zc2 at he hZ;rw[if_neg g1] at he hZ;refine zW h.self ?_;refine⟨?_,?_⟩
  rotate_left
  refine zR ?_
  rotate_left
  skip
  all_goals
   refine(zIS hC w.id).mono ?_;rintro v M3 (⟨rfl,hh,rfl⟩|⟨a3,n3,c3,l3,rfl,hh,_,hN3⟩)
   ·rw[if_pos hh] at he hZ;have hself:=h.self
    refine zW hself ?_;refine(zCW h.at' 2 rfl oM w.id hds hd).mono ?_;rintro v M4 ⟨H4,rfl,h4⟩;have h5:=h.cust h4
    have he:e=(zad X.C 2 w.id w.data true).2:=he;rw[←he];have hz0:NodeAt B0 M0 S0 B M4 { P with N:=P.N+1,H:=H4 } Z R:=by rw[hZ];exact h5
    obtain⟨Mz,hMz⟩:=oI M4;obtain⟨Bz,hBz⟩:=oI B;obtain⟨Pz,hPz⟩:=oI ({ P with N:=P.N+1,H:=H4 });rw[←hMz,←hBz,←hPz] at hz0;have hz:=hz0
    have hsmz:P.same Pz 1 0:=by rw[hPz];exact⟨rfl,fun _=>rfl,Yae _,Yd _,rfl⟩
    have hbz:B.le Bz:=by rw[hBz];exact Ya _
    rw[←hMz];have hselfz:Mz.has P.n 96 (zdF Pz Z):=by rw[←hsmz.n];exact hz.self
    have hCz:CuAt Bz Mz Pz.c Pz.p Pz.N Pz.H Z.C:=hz.at'.part 2 rfl;refine zW hselfz ?_;refine zJ (zeA hCz) ?_;cases hfz:Z.C.w.failed with
    | true=>
     rw[if_pos hfz] at hO;refine zR ?_;exact⟨rfl,Bz,Pz,hbz,hsmz,by rw[hO];exact hz⟩
    | false=>
     rw[if_neg (by rw[hfz];decide)] at hO;refine zR ?_;refine brn (fun g9=>?_) (fun g9=>?_)
     ·have g8:¬e=0:=by simpa using g9
      rw[if_neg g8] at hO;have hp:=zed hz (k:=k) (by rw[hs1.1];exact hk) ⟨3,w.n,w.id,[],[]⟩ (pD:=none) (kD:=0) (pC:=none) (kC:=0) ⟨zbR _,zbR _,by show 0≤2097152;decide,by show 0≤2097152;decide⟩ (by rw[hs1.2];exact ho)
      rw[hsmz.n] at hp;refine zR ?_;refine hp.mono ?_;rintro v M9 ⟨rfl,B9,P9,hb9,hs9,h9⟩;refine zR ?_;exact⟨rfl,B9,P9,Yc hbz hb9,by have:=hsmz.trans hs9;simpa using this,by rw[hO];exact h9⟩
     ·have g8:e=0:=by simpa using g9
      rw[if_pos g8] at hO;have hp:=zed hz (k:=k) (by rw[hs1.1];exact hk) ⟨2,w.n,w.id,[],[]⟩ (pD:=none) (kD:=0) (pC:=none) (kC:=0) ⟨zbR _,zbR _,by show 0≤2097152;decide,by show 0≤2097152;decide⟩ (by rw[hs1.2];exact ho)
      rw[hsmz.n] at hp;refine zR ?_;refine hp.mono ?_;rintro v M9 ⟨rfl,B9,P9,hb9,hs9,h9⟩;refine zR ?_;exact⟨rfl,B9,P9,Yc hbz hb9,by have:=hsmz.trans hs9;simpa using this,by rw[hO];exact h9⟩
   ·rw[if_neg (by rw[hh];decide)] at he hZ;have h3:=h.up hN3.le
    refine zW h3.self ?_;refine zJ (zG9 (h3.at'.part 4 rfl) w.id) ?_;obtain⟨Mz,hMz⟩:=oI M3;obtain⟨Bz,hBz⟩:=oI B;obtain⟨Pz,hPz⟩:=oI P;have hz:NodeAt B0 M0 S0 Bz Mz Pz Z R:=by rw[hZ,hMz,hBz,hPz];exact h3
    have hsmz:P.same Pz 1 0:=by rw[hPz];exact NP.same.refl P oM
    have hbz:B.le Bz:=by rw[hBz];exact Ya _
    rw[←hMz];have he:e=if isF X.dsk w.id=true then 7 else 0:=he
    cases hi:isF X.dsk w.id with
    | true=>
     rw[if_pos hi] at he;have e3:(if e=0 then (2:Int) else 3)=3:=if_neg (by rw[he];decide)
     rw[e3] at hO;refine zR ?_;have hselfz:Mz.has P.n 96 (zdF Pz Z):=by rw[←hsmz.n];exact hz.self
     have hCz:CuAt Bz Mz Pz.c Pz.p Pz.N Pz.H Z.C:=hz.at'.part 2 rfl;refine zW hselfz ?_;refine zJ (zeA hCz) ?_;cases hfz:Z.C.w.failed with
     | true=>
      rw[if_pos hfz] at hO;refine zR ?_;exact⟨rfl,Bz,Pz,hbz,hsmz,by rw[hO];exact hz⟩
     | false=>
      rw[if_neg (by rw[hfz];decide)] at hO;have hp:=zed hz (k:=k) (by rw[hs1.1];exact hk) ⟨3,w.n,w.id,[],[]⟩ (pD:=none) (kD:=0) (pC:=none) (kC:=0) ⟨zbR _,zbR _,by show 0≤2097152;decide,by show 0≤2097152;decide⟩ (by rw[hs1.2];exact ho)
      rw[hsmz.n] at hp;refine zR ?_;refine hp.mono ?_;rintro v M9 ⟨rfl,B9,P9,hb9,hs9,h9⟩;refine zR ?_;exact⟨rfl,B9,P9,Yc hbz hb9,by have:=hsmz.trans hs9;simpa using this,by rw[hO];exact h9⟩
    | false=>
     rw[if_neg (by rw[hi];decide)] at he;rw[if_pos he] at hO;refine zR ?_;have hselfz:Mz.has P.n 96 (zdF Pz Z):=by rw[←hsmz.n];exact hz.self
     have hCz:CuAt Bz Mz Pz.c Pz.p Pz.N Pz.H Z.C:=hz.at'.part 2 rfl;refine zW hselfz ?_;refine zJ (zeA hCz) ?_;cases hfz:Z.C.w.failed with
     | true=>
      rw[if_pos hfz] at hO;refine zR ?_;exact⟨rfl,Bz,Pz,hbz,hsmz,by rw[hO];exact hz⟩
     | false=>
      rw[if_neg (by rw[hfz];decide)] at hO;have hp:=zed hz (k:=k) (by rw[hs1.1];exact hk) ⟨2,w.n,w.id,[],[]⟩ (pD:=none) (kD:=0) (pC:=none) (kC:=0) ⟨zbR _,zbR _,by show 0≤2097152;decide,by show 0≤2097152;decide⟩ (by rw[hs1.2];exact ho)
      rw[hsmz.n] at hp;refine zR ?_;refine hp.mono ?_;rintro v M9 ⟨rfl,B9,P9,hb9,hs9,h9⟩;refine zR ?_;exact⟨rfl,B9,P9,Yc hbz hb9,by have:=hsmz.trans hs9;simpa using this,by rw[hO];exact h9⟩
end
end
section
variable {B0 M0 B M B' M':Mem} {S0:Nat→Prop} {R:List Pt} {ps:List Pt}
def zit (X:NodX) (k:Int) (w:Word):NodX:=
 if w.kind=1 then zfX X k w else if w.kind=2 then (if zg3 X.dsk k w.n w.id=true then { X with dsk:=zmQ X.dsk w.id,C:=(zad X.C 3 w.id [] false).1 } else X)
 else if w.kind=3 then { X with dsk:=zoX X.dsk X.set.wait k w.n w.id } else { X with tab:=zjv X.nb 64 X.tab k w.costs }
def ziu (X:NodX) (k:Int) (p:List UInt8):NodX:=match zcw p with|none=>{ X with bad:=inc X.bad }|some w=>zit X k w
theorem zC0 {l:List UInt8} {w:Word} (h:zcw l=some w):w.err=0:=by
 unfold zcw at h;split at h
 ·cases h
 ·simp_all
section
variable {P:NP} {X:NodX} {k:Int}
theorem zHe (h:NodeAt B0 M0 S0 B M P X R) (hk:k∈X.nb) (hN:P.N<4611686018427387904) (ht:X.told.length≤1000000000000) (ho:(X.sd k).L.out.length+65≤1000000000) {a:Option Addr} {c:Nat} {l:List UInt8} (hl:SrcOk B 1 a l.length (l.map zc)) (hc:l.length≤c) (hn:l.length≤2097152) :
  CallsM prog 127 [ptr P.n,.int .i64 k,.slice a l.length c] M fun v M'=>v = .tuple #[]∧NTo B0 M0 S0 B M' P (ziu X k l) R 1 1:=by
 refine zpj oS ?_;refine zM (zCr a l.length c M l (hl.le h.le) hn hc) ?_;rintro v M1 ⟨hle,hv⟩;obtain⟨B1,eB1⟩:=oI (newB B M M1);have hB1:B.le B1:=by rw[eB1];exact zeN h.le
 have h1:NodeAt B0 M0 S0 B1 M1 P X R:=by rw[eB1];exact h.upN hle
 cases hp:zcw l with
 | none=>
  rw[hp] at hv;have hv:v = .tuple #[(zeroW.w none 0 none 0).v,.int .i64 2]:=hv
  subst hv;have e:ziu X k l={ X with bad:=inc X.bad }:=by unfold ziu;rw[hp]
  refine zW h1.self ?_;refine obw ?_;refine zR ?_;refine h1.at'.stoV 0 rfl oS fun M2 h2=>?_
  refine zR ?_;exact⟨rfl,B1,P,hB1,NP.same.refl P oM,by rw[e];exact⟨h2.c (by rfl),h.inv.nbs,h.inv.len,h.inv.key,h.inv.val⟩⟩
 | some w=>
  rw[hp] at hv;have hv:∃ pD kD pC kC,v = .tuple #[(w.w pD kD pC kC).v,.int .i64 0]∧(w.w pD kD pC kC).Ok M1∧∀ q,pD=some q∨pC=some q→M q.block=none:=hv
  obtain⟨pD,kD,pC,kC,rfl,hw,hf⟩:=hv
  have hwB:(w.w pD kD pC kC).Ok B1:=by
   rw[eB1];exact⟨zc5 hw.data fun r hr=>hf r (.inl hr),zc5 hw.costs fun r hr=>hf r (.inr hr),hw.nD,hw.nC⟩
  have he:=zC0 hp;have h0:=W.err_zero (w:=w.w pD kD pC kC) hw.lenD hw.lenC he
  have e:ziu X k l=zit X k w:=by unfold ziu;rw[hp]
  have hdl:w.data.length≤48:=by
   have e1:(w.w pD kD pC kC).nD=w.data.length:=rfl;by_cases hk1:w.kind=1
   ·omega
   ·omega
  refine zR ?_;rw[e];unfold zit;refine brn (fun g=>?_) (fun g=>?_)
  ·have g1:w.kind=1:=Zd0 g;rw[if_pos g1];refine zM (zAQ h1 hk hN ht ho w hwB oM) ?_;rintro v M2 ⟨rfl,B2,P2,hb2,hs2,h2⟩;refine zR ?_;exact⟨rfl,B2,P2,Yc hB1 hb2,hs2.more oM oM,h2⟩
  have g1:¬w.kind=1:=Zd1 g;rw[if_neg g1];refine brn (fun g=>?_) (fun g=>?_)
  ·have g2:w.kind=2:=Zd0 g;rw[if_pos g2];refine zW h1.self ?_;refine(zEJ h1.at' 4 rfl k w.n w.id).mono ?_;rintro v M2 ⟨rfl,h2⟩;cases ha:zg3 X.dsk k w.n w.id with
   | true=>
    rw[ha] at h2;have h3:NodeAt B0 M0 S0 B1 M2 P { X with dsk:=zmQ X.dsk w.id } R:=⟨h2,h.inv.nbs,h.inv.len,h.inv.key,h.inv.val⟩
    refine zW h3.self ?_;refine(zwI h3.at' 2 rfl oM w.id).mono ?_;rintro v M4 ⟨H4,rfl,h4⟩;have h5:=h3.cust h4
    refine zR ?_;exact⟨rfl,B1,{ P with N:=P.N+1,H:=H4 },hB1,⟨rfl,fun _=>rfl,Yae _,Yd4 _ _,rfl⟩,h5⟩
   | false=>
    rw[ha] at h2;have h3:NodeAt B0 M0 S0 B1 M2 P X R:=⟨h2,h.inv.nbs,h.inv.len,h.inv.key,h.inv.val⟩
    refine zR ?_;exact⟨rfl,B1,P,hB1,NP.same.refl P oM,h3⟩
  have g2:¬w.kind=2:=Zd1 g;rw[if_neg g2];refine brn (fun g=>?_) (fun g=>?_)
  ·have g3:w.kind=3:=Zd0 g;rw[if_pos g3];refine zW h1.self ?_;refine(zx9 h1.at' 4 rfl k w.n w.id).mono ?_;rintro v M2 ⟨rfl,h2⟩;have h3:NodeAt B0 M0 S0 B1 M2 { P with K:=P.K+1 } { X with dsk:=zoX X.dsk X.set.wait k w.n w.id } R:=⟨h2,h.inv.nbs,h.inv.len,h.inv.key,h.inv.val⟩
   refine zR ?_;exact⟨rfl,B1,{ P with K:=P.K+1 },hB1,⟨rfl,fun _=>rfl,by grind,Yd _,rfl⟩,h3⟩
  have g3:¬w.kind=3:=Zd1 g;rw[if_neg g3];refine zW h1.self ?_;refine(zx7 (l:=w.costs) h1.at' 3 rfl k hw.costs (Yz hw.nC oD)).mono ?_;rintro v M2 ⟨⟨e2,rfl⟩,h2⟩;have h3:NodeAt B0 M0 S0 B1 M2 P { X with tab:=zjv X.nb 64 X.tab k w.costs } R:=⟨h2,h.inv.nbs,h.inv.len,h.inv.key,h.inv.val⟩
  refine zR ?_;exact⟨rfl,B1,P,hB1,NP.same.refl P oM,h3⟩
end
end
section
variable {B0 M0 B M B' M':Mem} {S0:Nat→Prop} {R:List Pt} {ps:List Pt}
theorem zy7:∀ (n:Nat) (X:za8),(zcv n X).R=X.R
 | 0,X=>rfl
 | n+1,X=>by
  unfold zcv;split
  ·rfl
  ·split
   ·rfl
   ·refine(zy7 n _).trans ?_;dsimp only;split<;>rfl
theorem zI1 (X:za8) (nr:Int):(zcz X nr).R=X.R:=by unfold zcz;split<;>rfl
def zj8 (l:List (Int×List UInt8)):Prop:=∀ q∈l,q.2.length≤121
theorem zEP {l:List (Int×List UInt8)} (h:zj8 l) (k:Int):zj8 (zaO l k):=fun q hq=>h q (Ya3.1 hq).1
theorem zsl:∀ (n:Nat) (X:zh7) (t:List (List UInt8)),zj8 X.kept→(∀ x∈t,x.length≤121)→∀ x∈(zd1 n X t).2,x.length≤121
 | 0,X,t,_,h=>h
 | n+1,X,t,hk,h=>by
  unfold zd1;split
  ·exact h
  ·rename_i l hl;refine zsl n _ _ (zEP hk _) fun x hx=>?_
   rcases Yy.1 hx with hx|hx
   ·exact h x hx
   ·rw[Y0.1 hx];exact hk _ (zG hl)
theorem zyb {X:zh7} (hk:zj8 X.kept) (ns:Int) (l:List UInt8):∀ x∈(zaG X ns l).told,x.length≤121:=by
 unfold zaG;split
 ·simp
 ·rename_i e;obtain⟨_,h2,h3⟩:=zB1 (Classical.not_not.1 e);refine zsl _ _ _ (fun q hq=>?_) (fun x hx=>by cases hx);have hq:q∈zt X.kept ns l:=hq
  rw[zjT h3] at hq;rcases Yy.1 hq with hq|hq
  ·exact hk q hq
  ·simp_all
structure RecvB (X Y:za8):Prop where
 out:Y.out.length≤X.out.length+200
 inn:Y.inn.length≤X.inn.length+129
 short:∀ p∈Y.inn,p∈X.inn∨p.length≤121
theorem RecvB.of {X Y:za8} (h1:Y.out.length≤X.out.length+200) (h2:Y.inn=X.inn):RecvB X Y:=⟨h1,by simp_all,fun p hp => .inl (h2▸hp)⟩
theorem zul:∀ (l:List Int) (X:za8),(zdQ l X).inn=X.inn
 | [],X=>rfl
 | n::r,X=>by rw[zdQ,zul r];rfl
theorem zEQ (X:za8) (c:zdD) (hk:X.R.kept.length≤128) (hs:zj8 X.R.kept):RecvB X (zeR X c):=by
 unfold zeR;dsimp only;obtain⟨Y,hY⟩:=oI (zcQ (zcz X c.nr));have y1:=ziD (zcz X c.nr)
 have y2:=zmt X c.nr;have y3:Y.R=X.R:=by rw[hY];exact(zy7 65 _).trans (zI1 _ _)
 rw[←hY] at y1 ⊢;rw[y2.1,y2.2] at y1;obtain⟨Z,hZ⟩:=oI (if c.p=true then { Y with R:={ Y.R with asked:=[] } } else Y);have z1:Z.out=Y.out∧Z.inn=Y.inn∧Z.R.kept=X.R.kept:=by rw[hZ];split<;>exact⟨rfl,rfl,by rw[←y3]⟩
 rw[←hZ];have t1:=ztY Z.R c.ns c.data
 have t2:=zyb (X:=Z.R) (by simp_all) c.ns c.data;rw[z1.2.2] at t1;unfold zdX;split
 ·refine .of ?_ ?_
  ·simp only[LnkR.add,Yi,Ym,Yar,z1.1];omega
  ·show Z.inn=_;rw[z1.2.1,y1.2]
 ·obtain⟨W,hW⟩:∃ W:za8,W={ Z with R:=(zaG Z.R c.ns c.data).X,inn:=Z.inn++(zaG Z.R c.ns c.data).told }:=⟨_,rfl⟩
  have w1:W.out=Z.out:=by rw[hW]
  have w2:W.inn=X.inn++(zaG Z.R c.ns c.data).told:=by rw[hW];show Z.inn++_=_;rw[z1.2.1,y1.2]
  rw[←hW];have s1:=ztZ (zaG Z.R c.ns c.data).asks W
  have s2:=zul (zaG Z.R c.ns c.data).asks W;refine⟨?_,?_,fun p hp=>?_⟩
  ·simp only[LnkR.add,Yi,Ym,Yar,s1,w1,z1.1];omega
  ·show (zdQ (zaG Z.R c.ns c.data).asks W).inn.length≤_;rw[s2,w2,Yi];omega
  ·have hp:p∈(zdQ (zaG Z.R c.ns c.data).asks W).inn:=hp;rw[s2,w2] at hp;exact(Yy.1 hp).imp id (t2 p)
theorem zER (X:za8) (c:zdD):RecvB X (zfO X c):=by
 unfold zfO;dsimp only;have y1:=ziD (zcz { X with busy:=decide (c.kind=3) } c.nr)
 have y2:=zmt { X with busy:=decide (c.kind=3) } c.nr;obtain⟨Y,hY⟩:=oI (zcQ (zcz { X with busy:=decide (c.kind=3) } c.nr));rw[y2.1,y2.2] at y1;rw[←hY] at y1 ⊢;obtain⟨Z,hZ⟩:=oI (if Y.busy=true∧0<Y.S.all.length∧Y.left=0 then { Y with left:=Y.timer } else Y);have z1:Z.out=Y.out∧Z.inn=Y.inn:=by rw[hZ];split<;>exact⟨rfl,rfl⟩
 rw[←hZ];split
 ·refine .of ?_ ?_
  ·simp only[zdX,LnkR.add,Yi,Ym,Yar,z1.1];dsimp only at y1;omega
  ·exact z1.2.trans y1.2
 ·exact .of (by grind) (z1.2.trans y1.2)
theorem zHf (X:za8) (c:zdD) (hk:X.R.kept.length≤128) (hs:zj8 X.R.kept):RecvB X (zde X c):=by
 unfold zde;split
 ·unfold zd2;dsimp only;refine .of ?_ ?_
  ·split
   ·simp[LnkR.add]
   ·split<;>simp[LnkR.add,zb3]
  ·split
   ·rfl
   ·split<;>rfl
 split
 ·unfold uaL;split
  ·exact .of oM rfl
  ·split<;>exact .of (Yd4 _ _) rfl
 split
 ·unfold dmL;split
  ·exact .of (by simp[zjn,zfN,zb3,LnkR.add]) rfl
  ·exact .of oM rfl
 split
 ·unfold zgb;dsimp only;obtain⟨Y,hY⟩:=oI (if X.up=true then X else zdK X);have y1:Y.out=X.out∧Y.inn=X.inn∧Y.R=X.R:=by rw[hY];split<;>exact⟨rfl,rfl,rfl⟩
  rw[←hY];have key:∀ {Z:za8},RecvB Y Z→RecvB X Z:=fun h=>⟨by rw[←y1.1];exact h.out,by rw[←y1.2.1];exact h.inn,by rw[←y1.2.1];exact h.short⟩
  split
  ·exact key (zEQ Y c (by simp_all) (by simp_all))
  split
  ·refine key ?_;unfold zgB;split
   ·exact .of (by simp[zcu,LnkR.add]) rfl
   ·exact .of oM rfl
  ·exact key (zER Y c)
 split
 ·exact .of oM rfl
 ·exact .of (by simp[LnkR.add]) rfl
theorem LkAt.short {e:Nat} {p:LP} {X:za8} (h:LkAt B0 M0 S0 B M e p X):zj8 X.R.kept:=by
 obtain⟨xs,vs,h1,_⟩:=h.ex;obtain⟨mv,h2,hk,hI⟩:=rcvP.opn (h1.part 2 rfl);exact fun q hq=>(hI.keys q hq).2
structure WordB (X Y:NodX):Prop where
 nb:Y.nb=X.nb
 told:Y.told.length≤X.told.length+1
 sd:∀ j,(Y.sd j).L.out.length≤(X.sd j).L.out.length+65∧(Y.sd j).L.inn=(X.sd j).L.inn∧(Y.sd j).out=(X.sd j).out
theorem WordB.of {X Y:NodX} (h1:Y.nb=X.nb) (h2:Y.told=X.told) (h3:Y.sd=X.sd):WordB X Y:=⟨h1,by simp_all,fun j=>by simp_all⟩
theorem zAR (X:NodX) (k:Int) (w:Word):(zbn X k w).1.told=X.told:=by unfold zbn;split<;>rfl
theorem zHg (X:NodX) (k:Int) (p:List UInt8):WordB X (ziu X k p):=by
 unfold ziu;split
 ·exact .of rfl rfl rfl
 ·unfold zit;split
  ·rename_i w _ _;have h1:=zqg X w
   have h2:(zc2 X w).1.told.length≤X.told.length+1:=by
    unfold zc2;split
    ·grind
    ·grind
   unfold zfX;split
   ·exact⟨h1.1,h2,fun j=>by simp_all⟩
   ·refine⟨(zwL _ _ _).trans h1.1,by rw[zAR];exact h2,fun j=>?_⟩;have:=zoB (zc2 X w).1 k ⟨if (zc2 X w).2=0 then 2 else 3,w.n,w.id,[],[]⟩ j
    rw[h1.2] at this;exact this
  split
  ·split<;>exact .of rfl rfl rfl
  split<;>exact .of rfl rfl rfl
end
section
variable {B0 M0 B M B' M':Mem} {S0:Nat→Prop} {R:List Pt} {ps:List Pt}
def zcT (k:Int) (X:NodX) (p:List UInt8):NodX:=if X.C.w.failed=true then X else ziu X k p
def zid (X:NodX) (k:Int) (c:zdD):NodX:=X.setSd k { X.sd k with L:={ zde (X.sd k).L c with inn:=[] } }
def zgV (k:Int) (X:NodX) (l:List UInt8):NodX:=match zdk l with
 | none=>{ X with bad:=inc X.bad }
 | some c=>(zde (X.sd k).L c).inn.foldl (zcT k) (zid X k c)
def zmZ (X:NodX) (k:Int) (p:List UInt8):NodX:=X.setSd k { X.sd k with hunts:=(zbH (X.sd k).D p).hunts,inn:=(zbH (X.sd k).D p).inn }
def zfg (X:NodX) (k:Int) (p:List UInt8):NodX:=(zbH (X.sd k).D p).told.foldl (zgV k) (zmZ X k p)
def zdG (X:NodX) (k:Int) (p:List UInt8):NodX×Int:=if X.C.w.failed=true then (X,9) else if k∈X.nb then (zc1 (zfg X k p),zj7 (zc1 (zfg X k p))) else (X,4)
theorem zES {l:List UInt8} {c:zdD} (h:zdk l=some c):zcj c=0:=by
 unfold zdk at h;split at h
 ·cases h
 split at h
 ·cases h
 split at h
 ·cases h
 split at h
 ·simp_all
 ·cases h
theorem zAS (X:zdR) (b:UInt8):∀ t∈(zbQ X b).told,t∈X.told∨t.length≤130:=by
 intro t ht;unfold zbQ at ht;split at ht
 ·dsimp only at ht;split at ht
  ·unfold zgq at ht;split at ht
   ·simp_all
   ·grind
  ·simp_all
 ·grind
theorem zsm:∀ (l:List UInt8) (X:zdR),(∀ t∈X.told,t.length≤130)→∀ t∈(zbH X l).told,t.length≤130
 | [],X,h=>h
 | b::r,X,h=>zsm r (zbQ X b) fun t ht=>(zAS X b t ht).elim (h t) id
theorem zum:∀ (l:List UInt8) (X:zdR),X.inn.length≤260→(zbH X l).told.length≤X.told.length+l.length
 | [],X,h=>Yd _
 | b::r,X,h=>by
  have h1:=zoi X b h;have:=zum r (zbQ X b) h1.1
  show (zbH (zbQ X b) r).told.length≤_;simp only[Ym];omega
structure FarB (X Y:NodX) (u b:Nat):Prop where
 nb:Y.nb=X.nb
 told:Y.told.length≤X.told.length+u
 sd:∀ j,(Y.sd j).L.out.length≤(X.sd j).L.out.length+b∧(Y.sd j).L.inn=(X.sd j).L.inn∧(Y.sd j).out=(X.sd j).out
theorem FarB.refl (X:NodX):FarB X X 0 0:=⟨rfl,Yd _,fun _=>⟨Yd _,rfl,rfl⟩⟩
theorem FarB.trans {X Y Z:NodX} {u b u' b':Nat} (h:FarB X Y u b) (h':FarB Y Z u' b'):FarB X Z (u+u') (b+b'):=
 ⟨h'.nb.trans h.nb,by have:=h.told;have:=h'.told;omega,fun j=>⟨by have:=(h.sd j).1;have:=(h'.sd j).1;omega,(h'.sd j).2.1.trans (h.sd j).2.1,(h'.sd j).2.2.trans (h.sd j).2.2⟩⟩
theorem FarB.more {X Y:NodX} {u b u' b':Nat} (h:FarB X Y u b) (hu:u≤u') (hb:b≤b'):FarB X Y u' b':=⟨h.nb,Yz h.told oM,fun j=>⟨Yz (h.sd j).1 oM,(h.sd j).2⟩⟩
theorem zHh (X:NodX) (k:Int) (p:List UInt8):FarB X (zcT k X p) 1 65:=by
 unfold zcT;split
 ·exact(FarB.refl X).more oM oM
 ·have:=zHg X k p;exact⟨this.nb,this.told,this.sd⟩
theorem zhf (X:NodX) (k:Int) (s:SideR):(X.setSd k s).sd k=s:=by unfold NodX.setSd;dsimp only;rw[if_pos rfl]
theorem zC1 (X:NodX) (k:Int) (s s':SideR):(X.setSd k s).setSd k s'=X.setSd k s':=by
 unfold NodX.setSd;dsimp only;congr 1;funext j;split<;>rfl
section
variable {P:NP} {X:NodX} {k:Int}
theorem zwS (h:NodeAt B0 M0 S0 B M P X R) (hN:P.N+8500000≤4611686018427387904) (hK:P.K+8500000≤999999999000) (ht:X.told.length+8500000≤1000000000000) {q:Nat} (hr:zmX X q) (hq:q≤10000000000000) {a:Option Addr} {c:Nat} {l:List UInt8} (hl:SrcOk B 1 a l.length (l.map zc)) (hn:l.length≤65536) :
  CallsM prog 66 [ptr P.n,.int .i64 k,.slice a l.length c] M fun v M'=>v = .int .i64 (zdG X k l).2∧NTo B0 M0 S0 B M' P (zdG X k l).1 R 8500000 8500256:=by
 refine zl1 oS ?_;refine zJ (zkJ h) ?_;unfold zj7;cases hf:X.C.w.failed
 rotate_left
 ·have e:zdG X k l=(X,9):=by unfold zdG;rw[if_pos hf]
  refine zR ?_;rw[e];exact⟨rfl,B,P,Ya _,NP.same.refl P oM,h⟩
 refine zW h.self ?_;by_cases hk:k∈X.nb
 rotate_left
 ·have e:zdG X k l=(X,4):=by unfold zdG;rw[if_neg (by rw[hf];decide),if_neg hk]
  refine h.map.get zcY k (fun g=>?_) (fun y j g=>?_)
  ·refine zR ?_;rw[e];exact⟨rfl,B,P,Ya _,NP.same.refl P oM,h⟩
  ·rw[h.inv.get_no hk] at g;cases g
 have e:zdG X k l=(zc1 (zfg X k l),zj7 (zc1 (zfg X k l))):=by unfold zdG;rw[if_neg (by rw[hf];decide),if_pos hk]
 refine h.map.get zcY k (fun g=>?_) (fun y j g=>?_)
 ·rw[h.inv.get hk] at g;cases g
 rw[h.inv.get hk] at g;cases g;refine zW ((h.scell hk)) ?_;obtain⟨ts,hd,hR,hil⟩:=decP.opn ((h.opn hk).part 2 rfl);refine(zAh hd hR hil rfl hl oM).mono ?_;rintro v M1 ⟨qt,ct,B1,q1,vs,rfl,hb1,hvs,hbr,h1⟩;have h2:At B M (sdD P X k) B1 M1 (zeV { P.sp k with q:=q1 } { X.sd k with hunts:=(zbH (X.sd k).D l).hunts,inn:=(zbH (X.sd k).D l).inn }):=(h.opn hk).call 2 rfl (decP.cls h1 Ydr (zt1 l _ hil))
 have h3:NodeAt B0 M0 S0 B1 M1 (P.setSp k { P.sp k with q:=q1 }) (zmZ X k l) R:=h.cls hk h2 rfl;obtain⟨cs,hcs⟩:=oI ((zbH (X.sd k).D l).told);have hr1:zfg X k l=cs.foldl (zgV k) (zmZ X k l):=by rw[hcs];rfl
 have hcn:cs.length≤65536:=by rw[hcs];have:=zum l (X.sd k).D hil;simp at this;omega
 have hcl:∀ t∈cs,t.length≤130:=by rw[hcs];exact zsm l _ (fun t ht=>by cases ht)
 have hfb:FarB X (zmZ X k l) 0 0:=⟨rfl,Yd _,fun j=>by
  unfold zmZ NodX.setSd;dsimp only;split
  ·simp_all
  ·simp⟩
 rw[←hcs] at hvs hbr ⊢;have hvl:vs.length=cs.length:=hbr.1
 let Y (j:Nat):NodX:=(cs.take j).foldl (zgV k) (zmZ X k l)
 have hY:∀ j (hj:j<cs.length),Y (j+1)=zgV k (Y j) cs[j]:=fun j hj=>by
  simp only[Y,Y1,Yb hj,Ya0];rfl
 refine zR ?_
 refine zak (σ:=Nat×Mem×Mem×NP) [35] (fun y=>[(35,.int .i64 y.1)]) (fun _=>[]) (fun y=>y.2.1)
  (fun|⟨j,Mc,Bc,Pc⟩=>j≤cs.length∧NodeAt B0 M0 S0 Bc Mc Pc (Y j) R∧B1.le Bc∧P.same Pc ((129*j:Nat):Int) (129*j)∧FarB X (Y j) (129*j) (8600*j)) (fun y=>cs.length - y.1)
  ⟨0,M1,B1,P.setSp k { P.sp k with q:=q1 }⟩ ⟨Y5 _,h3,Ya _,NP.same.set P k (x':={ P.sp k with q:=q1 }) rfl oM,hfb⟩ zS ?_
 rintro ⟨j,Mc,Bc,Pc⟩ ⟨hj,hc,hbc,hsm,hfar⟩;have hself:Mc.has P.n 96 (zdF Pc (Y j)):=by rw[←hsm.n];exact hc.self
 have hkm:k∈(Y j).nb:=by rw[hfar.nb];exact hk
 refine brn (fun g=>?_) (fun g=>?_)
 ·have hlt:j<cs.length:=by have:=Zd0 g;dsimp only at this;omega
  have hYj:=hY j hlt;obtain⟨t,htt⟩:=oI (cs[j]);rw[←htt] at hYj;have htm:t∈cs:=by rw[htt];exact Yai hlt
  obtain⟨v,hv⟩:∃ v,vs[j]? = some v:=⟨vs[j]'oM,Yb oM⟩
  obtain⟨qe,ce,rfl,hce,hrow⟩:=hbr.2 j v t hv (by rw[htt,Yb hlt]);obtain⟨b2,o2,e2,hr2⟩:=((hvs.le hbc).le hc.le).get hv;have htl:=hcl t htm
  have hsc:Mc.has (P.sp k).s 114 (ziI (Pc.sp k) ((Y j).sd k)):=by rw[←hsm.s k];exact hc.scell hkm
  refine ob (by omega) ?_;refine atp e2 ?_;refine zR ?_;refine on hr2 ?_;refine zM (zCf ((hrow.le hbc).le hc.le) hce oM) ?_;rintro v M2 (⟨hg,rfl,hle2⟩|⟨x,qx,cx,hg,rfl,hN2⟩)
  ·have h4:=hc.up hle2;have e4:zgV k (Y j) t={ Y j with bad:=inc (Y j).bad }:=by unfold zgV;rw[hg]
   refine zR ?_;have hs4:M2.has P.n 96 (zdF Pc (Y j)):=by rw[←hsm.n];exact h4.self
   refine zW hs4 ?_;refine obw ?_;refine zR ?_;have hat:=h4.at'
   unfold zgT at hat;rw[hsm.n] at hat;refine hat.stoV 0 rfl oS fun M3 h5=>?_
   have h6:NodeAt B0 M0 S0 Bc M3 Pc (Y (j+1)) R:=by
    rw[hYj,e4];refine⟨?_,hc.inv.nbs,hc.inv.len,hc.inv.key,hc.inv.val⟩;unfold zgT;rw[hsm.n];exact h5.c (by rfl)
   refine zR ?_;refine obr (inR_i64 (by omega)) ?_;refine⟨⟨j+1,M3,Bc,Pc⟩,⟨hlt,h6,hbc,hsm.more oM oM,?_⟩,by omega,zS⟩;rw[hYj,e4];have:FarB (Y j) { Y j with bad:=inc (Y j).bad } 0 0:=⟨rfl,Yd _,fun _=>⟨Yd _,rfl,rfl⟩⟩
   exact(hfar.trans this).more oM oM
  obtain⟨B2,eB2⟩:=oI (newB Bc Mc M2);have hB2:Bc.le B2:=by rw[eB2];exact zeN hc.le
  have h4:NodeAt B0 M0 S0 B2 M2 Pc (Y j) R:=by rw[eB2];exact hc.upN hN2.le
  have hxo:(⟨x,qx,cx⟩:CtlX).ok B2:=⟨by rw[eB2];exact zc5 hN2.src fun r hr=>(hN2.block hr).1,(newSl_iff.1 hN2).2.2.1⟩
  have hce0:=zES hg;have hsd:=hfar.sd k
  obtain⟨r1,r2,r3⟩:=hr k hk;rw[r1,r2] at hsd;have hlk:=zfW (h4.opn hkm)
  have hs4:M2.has (P.sp k).s 114 (ziI (Pc.sp k) ((Y j).sd k)):=by rw[←hsm.s k];exact h4.scell hkm
  refine zW hs4 ?_;refine(zuP hlk ⟨x,qx,cx⟩ hxo (by grind) (by simp_all)).mono ?_;rintro v M3 ⟨rfl,h5⟩;rw[if_pos hce0] at h5;obtain⟨B5,P5,hb5,hs5,h6⟩:=h4.lnk hkm h5;have hrb:=zHf ((Y j).sd k).L x hlk.kept hlk.short
  have hkm6:k∈((Y j).setSd k { (Y j).sd k with L:=zde ((Y j).sd k).L x }).nb:=hkm;have hss5:(P5.sp k).s=(P.sp k).s:=(hs5.s k).trans (hsm.s k)
  have hs6:M3.has (P.sp k).s 114 (ziI (P5.sp k) (((Y j).setSd k { (Y j).sd k with L:=zde ((Y j).sd k).L x }).sd k)):=by rw[←hss5];exact h6.scell hkm6
  rw[hce0];refine zW hs6 ?_;refine(zDZ (zfW (h6.opn hkm6))).mono ?_;rintro v M7 ⟨B7,q7,c7,ws,p7,rfl,hb7,hws,hbw,h7⟩;have h8:=(h6.opn hkm6).call 1 rfl h7.cls
  rw[zhf] at hws hbw ⊢;obtain⟨pl,hpl⟩:=oI ((zde ((Y j).sd k).L x).inn);have hrc:zgV k (Y j) t=pl.foldl (zcT k) (zid (Y j) k x):=by unfold zgV;rw[hg,hpl]
  have h9:NodeAt B0 M0 S0 B7 M7 (P5.setSp k { P5.sp k with p:=p7 }) (zid (Y j) k x) R:=by
   have h10:=h6.cls hkm6 (x':={ P5.sp k with p:=p7 }) (s':={ (Y j).sd k with L:={ zde ((Y j).sd k).L x with inn:=[] } }) (h8.c (by rw[zhf];rfl)) rfl;rw[zC1] at h10;exact h10
  have hsm9:P.same (P5.setSp k { P5.sp k with p:=p7 }) ((129*j:Nat):Int) (129*j):=by
   have:=(hsm.trans hs5).trans (NP.same.set P5 k (x':={ P5.sp k with p:=p7 }) rfl (a:=0) (b:=0) oM);simpa using this
  have hfg:FarB (Y j) (zid (Y j) k x) 0 200:=⟨rfl,Yd _,fun i=>by
   unfold zid NodX.setSd;dsimp only;split
   ·rename_i e5;rw[e5];exact⟨hrb.out,by rw[hsd.2.1],rfl⟩
   ·simp⟩
  have hpn:pl.length≤129:=by have:=hrb.inn;rw[hsd.2.1] at this;rw[hpl];simpa using this
  have hps:∀ p∈pl,p.length≤121:=fun p hp=>by
   rcases hrb.short p (by simp_all) with h1|h1
   ·simp_all
   ·exact h1
  rw[←hpl] at hws hbw ⊢;have hwl:ws.length=pl.length:=hbw.1
  refine zR ?_
  refine zak (σ:=Nat×Mem×Mem×NP) [65] (fun y=>[(65,.int .i64 y.1)]) (fun _=>[]) (fun y=>y.2.1)
   (fun|⟨i,Me,Be,Pe⟩=>i≤pl.length∧NodeAt B0 M0 S0 Be Me Pe ((pl.take i).foldl (zcT k) (zid (Y j) k x)) R∧B7.le Be∧P.same Pe ((129*j+i:Nat):Int) (129*j+i)∧FarB X ((pl.take i).foldl (zcT k) (zid (Y j) k x)) (129*j+i) (8600*j+200+65*i)) (fun y=>pl.length - y.1)
   ⟨0,M7,B7,P5.setSp k { P5.sp k with p:=p7 }⟩ ⟨Y5 _,h9,Ya _,hsm9,(hfar.trans hfg).more oM oM⟩ zS ?_
  rintro ⟨i,Me,Be,Pe⟩ ⟨hi,he,hbe,hsme,hfe⟩;obtain⟨W,hW⟩:=oI ((pl.take i).foldl (zcT k) (zid (Y j) k x));rw[←hW] at he hfe;have hselfe:Me.has P.n 96 (zdF Pe W):=by rw[←hsme.n];exact he.self
  have hCe:CuAt Be Me Pe.c Pe.p Pe.N Pe.H W.C:=he.at'.part 2 rfl;have hke:k∈W.nb:=by rw[hfe.nb];exact hk
  refine brn (fun g=>?_) (fun g=>?_)
  ·have hlt2:i<pl.length:=by have:=Zd0 g;dsimp only at this;omega
   have hW1:(pl.take (i+1)).foldl (zcT k) (zid (Y j) k x)=zcT k W pl[i]:=by
    rw[hW,Y1,Yb hlt2,Ya0];rfl
   obtain⟨pp,hpp⟩:=oI (pl[i]);rw[←hpp] at hW1;have hppl:=hps pp (by simp_all)
   obtain⟨v,hv⟩:∃ v,ws[i]? = some v:=⟨ws[i]'oM,Yb oM⟩
   obtain⟨qw,cw,rfl,hcw,hroww⟩:=hbw.2 i v pp hv (by simp_all);obtain⟨b3,o3,e3,hr3⟩:=((hws.le hbe).le he.le).get hv;have hwb:=zHh W k pp
   refine ob (by omega) ?_;refine atp e3 ?_;refine zR ?_;refine on hr3 ?_;refine zW hselfe ?_;refine zJ (zeA hCe) ?_;cases hfw:W.C.w.failed with
   | true=>
    have e5:zcT k W pp=W:=by unfold zcT;rw[if_pos hfw]
    refine zR ?_;refine obr (inR_i64 (by omega)) ?_;refine⟨⟨i+1,Me,Be,Pe⟩,⟨hlt2,by simp_all,hbe,hsme.more oM oM,by rw[hW1,e5];exact hfe.more oM oM⟩,by omega,zS⟩
   | false=>
    have e5:zcT k W pp=ziu W k pp:=by unfold zcT;rw[if_neg (by rw[hfw];decide)]
    have hfk:=hfe.sd k;rw[r1] at hfk;have hNe:=hsme.N
    have hw:=zHe (c:=cw) he hke oM (by have:=hfe.told;omega) (by grind) (hroww.le hbe) hcw oM;rw[hsme.n] at hw;refine zR ?_;refine hw.mono ?_;rintro v M9 ⟨rfl,B9,P9,hb9,hs9,h10⟩;refine zR ?_;refine obr (inR_i64 (by omega)) ?_;exact⟨⟨i+1,M9,B9,P9⟩,⟨hlt2,by simp_all,Yc hbe hb9,(hsme.trans hs9).more oM oM,by rw[hW1];exact(hfe.trans hwb).more oM oM⟩,by omega,zS⟩
  have hge:i=pl.length:=by have:=Zd1 g;dsimp only at this;omega
  subst hge;rw[Yaj,←hrc,←hYj] at hW;rw[hW] at he hfe;refine zR ?_;refine obr (inR_i64 (by omega)) ?_;exact⟨⟨j+1,Me,Be,Pe⟩,⟨hlt,he,Yc hbc (Yc hB2 (Yc hb5 (Yc hb7 hbe))),hsme.more oM oM,hfe.more oM oM⟩,by omega,zS⟩
 have hge:j=cs.length:=by have:=Zd1 g;dsimp only at this;omega
 subst hge;have eY:Y cs.length=zfg X k l:=by rw[hr1];simp only[Y];rw[Yaj]
 rw[eY] at hc hfar;have hNc:=hsm.N
 have hKc:=hsm.K
 have hwk:=zmW hc oM oM fun i hi=>by
  obtain⟨f1,f2,f3⟩:=hfar.sd i;obtain⟨s1,s2,s3⟩:=hr i (by rw[←hfar.nb];exact hi);rw[s1] at f1;rw[f3];simp at f1;omega
 rw[hsm.n] at hwk;refine zR ?_;refine hwk.mono ?_;rintro v M8 ⟨rfl,B8,P8,hb8,hs8,h8⟩;have hrd:=zkJ h8
 rw[(hsm.trans hs8).n] at hrd;refine zR ?_;refine hrd.mono ?_;rintro v _ ⟨rfl,rfl⟩;refine zR ?_;rw[e];exact⟨rfl,B8,P8,Yc hb1 (Yc hbc hb8),(hsm.trans hs8).more oM oM,h8⟩
end
end
end Go.Proofs.YtlgbofpennelhaaGreat
namespace Go.Proofs.YtlgbofpennelhaaGreat
set_option linter.unusedSimpArgs false
open Go Go.Vm
attribute [local irreducible] Brn Ob Grow CallsM inR zI zF Mem.row Mem.cells Mem.setCells Mem.upd Go.Vm.Own zZ zaj zam zO New SrcOk subA NewSl Mem.textAt Mem.mapAt Mem.iterAt zC zB Wr NewEls Elems zc9 zeK zfF zef zeg
set_option maxRecDepth 10000
variable {B0 M0 B M B' M':Mem} {S0:Nat→Prop} {R:List Pt} {ps:List Pt}
def okN (x a b:Int):Bool:=decide (a≤x∧x≤b)
theorem zC2 (x a b:Int):okN x a b=(decide (x≥a)&&decide (x≤b)):=by unfold okN;simp
theorem zj9 (x a b:Int):CallsM Tryz.prog 80 [.int .i64 x,.int .i64 a,.int .i64 b] M fun v M'=>v = .bool (okN x a b)∧M=M':=by
 refine zzN oS ?_;refine brn (fun h=>?_) (fun h=>?_)
 all_goals (conv=>whnf)
 ·exact⟨by rw[zC2];have:=Zd0 h;simp_all,rfl⟩
 ·exact⟨by rw[zC2];have:=Zd1 h;simp_all;omega,rfl⟩
def okS (S:ziX):Bool:=okN S.disk 1 1048576&&(okN S.seg 16 1048576&&(okN S.win 1 63&&(okN S.timer 1 64&&(okN S.tries 1 64&&(okN S.wait 1 64&&okN S.delay 0 64)))))
def zg4 (S:ziX):Int:=if zcN 0 S.qh S.qb S.qg then 1 else if okS S=true then 0 else 1
@[reducible] def zve (S:ziX):Value := .agg #[.int .i64 S.qh,.int .i64 S.qb,.int .i64 S.qg,.int .i64 S.disk,.int .i64 S.seg,.int .i64 S.win,.int .i64 S.timer,.int .i64 S.tries,.int .i64 S.wait,.int .i64 S.delay]
theorem zC3 (S:ziX):CallsM Tryz.prog 38 [zve S] M fun v M'=>v = .int .i64 (zg4 S)∧M.le M':=by
 refine zuH oS ?_;refine zM (zF4 0 S.qh S.qb S.qg) ?_;rintro v M1 (⟨hb,rfl,rfl⟩|⟨hb,h,rfl,hw,_⟩)
 ·refine zR ?_;exact⟨by unfold zg4;rw[if_pos hb],Ya _⟩
 have hle:=hw.st.le;have e0:zg4 S=if okS S=true then 0 else 1:=by unfold zg4;rw[if_neg hb]
 rw[e0];clear hw e0 hb;refine zJ (zj9 _ _ _) ?_;refine brn (fun g=>?_) (fun g=>?_)
 ·(conv=>whnf);have e:okS S=false:=by simp_all [okS]
  refine zR ?_;exact⟨by rw[e];rfl,hle⟩
 refine zJ (zj9 _ _ _) ?_;refine brn (fun g=>?_) (fun g=>?_)
 ·(conv=>whnf);have e:okS S=false:=by simp_all [okS]
  refine zR ?_;exact⟨by rw[e];rfl,hle⟩
 refine zJ (zj9 _ _ _) ?_;refine brn (fun g=>?_) (fun g=>?_)
 ·(conv=>whnf);have e:okS S=false:=by simp_all [okS]
  refine zR ?_;exact⟨by rw[e];rfl,hle⟩
 refine zJ (zj9 _ _ _) ?_;refine brn (fun g=>?_) (fun g=>?_)
 ·(conv=>whnf);have e:okS S=false:=by simp_all [okS]
  refine zR ?_;exact⟨by rw[e];rfl,hle⟩
 refine zJ (zj9 _ _ _) ?_;refine brn (fun g=>?_) (fun g=>?_)
 ·(conv=>whnf);have e:okS S=false:=by simp_all [okS]
  refine zR ?_;exact⟨by rw[e];rfl,hle⟩
 refine zJ (zj9 _ _ _) ?_;refine brn (fun g=>?_) (fun g=>?_)
 ·(conv=>whnf);have e:okS S=false:=by simp_all [okS]
  refine zR ?_;exact⟨by rw[e];rfl,hle⟩
 refine zJ (zj9 _ _ _) ?_;refine brn (fun g=>?_) (fun g=>?_)
 ·(conv=>whnf);have e:okS S=false:=by simp_all [okS]
  refine zR ?_;exact⟨by rw[e];rfl,hle⟩
 have e:okS S=true:=by simp_all [okS]
 refine zR ?_;exact⟨by rw[e];rfl,hle⟩
def zhL (p b:Nat) (es:FsT) (D:zf):Pt:=⟨zav p b es,fun B M=>FreshD B M p b D es,fun h hy=>h.at'.full hy,fun h hy=>h.fresh _ hy,fun {B M B' M'} h hB hle hs=>⟨hle,h.at'.mono fun y o hy ho=>by simp_all,h.rel,h.inv,fun y hy=>(hs y hy).2⟩⟩
theorem zET (h:At B0 M0 S0 B M ps) (i:Nat) {p b:Nat} {es:FsT} {D:zf} (hi:ps[i]? = some (zhL p b es D)) {c:Nat} {N:Int} {H:CuH} {C:CuR} (h':CuAt (M.minus (zav p b es)) M' c p N H C):At B0 M0 S0 B M' (rpl ps i [zdx c p N H C]):=by
 have h0:FreshD B M p b D es:=h.part i hi;have hB:=h0.base.2
 have h2:CuAt B M' c p N H C:=h'.mono hB;refine h.call i hi (At.of (p:=zdx c p N H C) h2 h2.le ⟨Ya _,Ycc.2 h'.le,fun _ h => .inl h,fun y hy=>?_⟩);have h3:=h'.fresh hy
 unfold Mem.minus at h3;split at h3
 ·exact .inl (by assumption)
 ·simp_all
def zbi (P:NP) (X:NodX):Pt:=⟨zc4 (zgT P X++zfV P X),fun B M=>Sep B M (zgT P X++zfV P X)∧NodI P X,fun ⟨h,_⟩ hy=>(comp _).live h hy,fun ⟨h,_⟩ hy=>(comp _).off h hy,fun ⟨h,hI⟩ hB hle hs=>⟨(comp _).stay h hB hle hs,hI⟩⟩
theorem zC4 {P:NP} {X:NodX} (h:(zbi P X).ok B M):NodeAt B M (zbi P X).d B M P X []:=by
 obtain⟨h1,h2⟩:=h;refine⟨?_,h2⟩;rw[Yt];exact Sep.at h1
theorem zfY {P:NP} {X:NodX} (h:NodeAt B0 M0 S0 B M P X []):At B0 M0 S0 B M [zbi P X]:=by
 have h1:=h.at';rw[Yt] at h1;exact At.of ⟨h1.sep,h.inv⟩ h1.le h1.tn
end Go.Proofs.YtlgbofpennelhaaGreat
namespace Go.Proofs.YtlgbofpennelhaaGreat
open Go Go.Vm
attribute [local irreducible] Brn Ob Grow CallsM inR zI zF Mem.row Mem.cells Mem.setCells Mem.upd Go.Vm.Own zZ zaj zam zO New SrcOk subA NewSl Mem.textAt Mem.mapAt Mem.iterAt zC zB Wr NewEls Elems zc9 zeK zfF zef zeg
set_option maxRecDepth 10000
section
variable {B0 M0 B M B' M':Mem} {S0:Nat→Prop} {R:List Pt} {ps qs:List Pt}
theorem zy8 (h:At B0 M0 S0 B M ps) {p:Pt} (h':At B M (fun _=>False) B M' [p]):At B0 M0 S0 B M' (ps++[p]):=by
 obtain⟨h1,t⟩:=h'.one;exact h.more (fun y o ho=>t.keep y o (fun h=>h) ho) h1 fun y hy=>(t.sup y hy).elim (fun h=>h.elim) id
theorem zEU (h:At B0 M0 S0 B M (ps++qs)):At B0 M0 S0 B M (ps++[comp qs]):=by
 have hd:=h.dj;rw[Yax] at hd;refine⟨h.le,fun p hp=>?_,?_,?_⟩
 ·rcases Yy.1 hp with hp|hp
  ·exact h.ok p (Ych _ hp)
  ·rw[Y0.1 hp];exact⟨h.le,fun q hq=>h.ok q (Yc7 _ hq),hd.2.1⟩
 ·rw[Yax];refine⟨hd.1,Yay .., fun a ha b hb y hy hb'=>?_⟩;rw[Y0.1 hb] at hb';obtain⟨q,hq,hy'⟩:=hb';exact hd.2.2 a ha q hq y hy hy'
 ·have e:zc4 (ps++[comp qs])=zc4 (ps++qs):=by
   funext y;refine propext ⟨fun ⟨p,hp,hy⟩=>?_,fun ⟨p,hp,hy⟩=>?_⟩
   ·rcases Yy.1 hp with hp|hp
    ·exact⟨p,Ych _ hp,hy⟩
    ·rw[Y0.1 hp] at hy;obtain⟨q,hq,hy⟩:=hy;exact⟨q,Yc7 _ hq,hy⟩
   ·rcases Yy.1 hp with hp|hp
    ·exact⟨p,Ych _ hp,hy⟩
    ·exact⟨comp qs,by simp,⟨p,hp,hy⟩⟩
  rw[e];exact h.tn
def DQ0:DQ:=⟨none,0,none,0,(0,0,0,0,0)⟩
theorem zC5 (hB:B.le M):CallsM Tryz.prog 42 [] M fun v M'=>∃ d,v=ptr d∧At B M (fun _=>False) B M' [decP d DQ0 ⟨true,[],[]⟩]:=by
 refine zxA oS ?_;have h0:At B M (fun _=>False) B M []:=⟨hB,fun p hp=>(by cases hp),List.Pairwise.nil,⟨Ya _,Yas _ _,fun _ h => .inl h,fun y ⟨p,hp,_⟩=>by cases hp⟩⟩
 refine zR ?_;refine h0.newV fun d M1 h1=>?_
 refine zR ?_;have h2:=(h1.row0 5 1).row0 37 1
 exact⟨d,rfl,decP.cls (p:=DQ0) (X:=⟨true,[],[]⟩) (ts:=[]) h2 Ydr oS⟩
theorem zC6 (h:At B0 M0 S0 B M ps) (i:Nat) {p b:Nat} {es:FsT} {D:zf} (hi:ps[i]? = some (zhL p b es D)) {b':Nat} {es':FsT} {D':zf} (h':FreshD (M.minus (zav p b es)) M' p b' D' es'):At B0 M0 S0 B M' (rpl ps i [zhL p b' es' D']):=by
 have h0:FreshD B M p b D es:=h.part i hi;have hB:=h0.base.2
 have h2:FreshD B M' p b' D' es':=⟨Yc hB h'.le,h'.at',h'.rel,h'.inv,fun y hy=>by
  cases e:B y with
  | none=>rfl
  | some o=>have:=hB y o e;rw[h'.fresh y hy] at this;cases this⟩
 refine h.call i hi (At.of (p:=zhL p b' es' D') h2 h2.le ⟨Ya _,Ycc.2 h'.le,fun _ h => .inl h,fun y hy=>?_⟩);have h3:=h'.fresh y hy
 unfold Mem.minus at h3;split at h3
 ·exact .inl (by assumption)
 ·simp_all
theorem zEV (h:At B0 M0 S0 B M ps) {p b:Nat} {wait:Int} (hw:1≤wait∧wait≤64) (hp:M p=none) (hb:M b=none) (hle:M.le M') (hd:DeskAt M' p b wait 0 []):At B0 M0 S0 B M' (ps++[zdy ⟨p,b⟩ wait 0 0 fun _=>none]):=by
 have hn:∀ y,zvd ⟨p,b⟩ y→M y=none:=fun y hy=>by rcases hy with rfl|rfl<;>assumption
 refine h.more hle ⟨⟨[],hd,fun _=>rfl,Yd _⟩,fun i k hk=>(by cases hk),by decide,hw,fun y hy=>?_⟩ hn;cases e:B y with
 | none=>rfl
 | some o=>have:=h.le y o e;rw[hn y hy] at this;cases this
theorem zwT {me:Int}:∀ {l:List Int} {last:Int},zor me last l=true→(∀ k∈l,(0≤k∧k<64)∧k≠me∧last<k)∧l.Pairwise (· < ·)
 | [],_,_=>⟨by simp,List.Pairwise.nil⟩
 | x::r,last,h=>by
  simp only[zor,Yl,Yah,decide_eq_false_iff_not] at h;obtain⟨⟨⟨h1,h2⟩,h3⟩,h4⟩:=h;obtain⟨i1,i2⟩:=zwT h4;have h1':=isNode_iff.1 h1
  refine⟨fun k hk=>?_,Yx.2 ⟨fun y hy=>(i1 y hy).2.2,i2⟩⟩;rcases Yp.1 hk with rfl|hk
  ·omega
  ·grind
theorem zC7 {me:Int} {nb:List Int} {age:Int} (h:zg0 me nb age=0):(0≤me∧me<64)∧(1≤age∧age≤64)∧(∀ k∈nb,(0≤k∧k<64)∧k≠me)∧nb.Pairwise (· < ·)∧nb.length≤64:=by
 unfold zg0 at h;split at h
 ·rename_i g;simp only[Yl,Yah,decide_eq_false_iff_not] at g;split at h
  ·rename_i g2;obtain⟨h1,h2⟩:=zwT g2;refine⟨isNode_iff.1 g.1.1,by omega,fun k hk=>⟨(h1 k hk).1,(h1 k hk).2.1⟩,h2,?_⟩
   have:=zmn 64 (nb.map Int.toNat) (by
    rw[List.Nodup,Ybd];refine(Yd5.1 h2).imp fun {a b} hab e=>?_
    have:=(h1 a hab.1).1;have:=(h1 b hab.2.1).1;have:=hab.2.2;omega) fun y hy=>by grind
   simpa using this
  ·cases h
 ·cases h
theorem zHi (h:At B0 M0 S0 B M ps) {p b1 b2 n c:Nat} {a:Option Addr} {me:Int} {nb:List Int} (hp:M p=none) (h1:M b1=none) (h2:M b2=none) (ha:∀ q,a=some q→M q.block=none∧q.block≠p) (hle:M.le M') (ht:TabAt M' p b1 b2 a n c me 64 nb [] []) (hnb:∀ k∈nb,0≤k∧k<64) (hl:n≤64) :
  ∃ B',B.le B'∧At B0 M0 S0 B' M' (ps++[zlm ⟨p,b1,b2,a,n,c⟩ me 64 nb fun _=>none]):=by
 obtain⟨M1,eM⟩:∃ M1,M1=M'.minus (zqV ⟨p,b1,b2,a,n,c⟩):=⟨_,rfl⟩
 have hn:∀ y,zqV ⟨p,b1,b2,a,n,c⟩ y→M y=none:=fun y hy=>by rcases hy with rfl|rfl|rfl<;>assumption
 have hM1:M.le M1:=by rw[eM];exact Ybs hle hn
 have hM1':M1.le M':=by rw[eM];exact Yab _ _
 have hab:∀ y,blk a y→¬zqV ⟨p,b1,b2,a,n,c⟩ y:=fun y hy ht2=>by
  obtain⟨q,hq,rfl⟩:=hy;rcases ht2 with e|e|e
  ·simp_all
  ·exact(ht.na q hq).1 e
  ·exact(ht.na q hq).2 e
 have hrow:SrcOk M1 1 a n (nb.map zi):=zgX ht.nbs fun r hr=>by
  rw[eM];unfold Mem.minus;rw[if_neg (hab _ ⟨r,hr,rfl⟩)]
 have h3:=h.upN hM1;have hrow2:SrcOk (newB B M M1) 1 a n (nb.map zi):=zc5 hrow fun r hr=>(ha r hr).1
 have hoff:∀ y,zqV ⟨p,b1,b2,a,n,c⟩ y→M1 y=none:=fun y hy=>by rw[eM];exact Yaq hy
 refine⟨newB B M M1,zeN h.le,h3.more hM1' ⟨⟨[],ht,fun k=>?_,fun k hk=>by cases hk⟩,fun k x hk=>(by cases hk),hrow2,hnb,hl,by decide,fun y hy=>?_⟩ hoff⟩
 ·show zoW none none;exact True.intro
 ·cases e:newB B M M1 y with
  | none=>rfl
  | some o=>have:=h3.le y o e;rw[hoff y hy] at this;cases this
end
section
variable {B0 M0 B M B' M':Mem} {S0:Nat→Prop} {R:List Pt} {ps:List Pt}
def zjw (me:Int) (S:ziX):SideR:=⟨zv2 me S.win S.timer S.tries,true,[],0,[]⟩
def zgi (C:CuR):Int:=Int.tmod (512*C.X.S.epoch) 65536
def zm0 (me:Int) (S:ziX) (nb:List Int) (C:CuR):NodX:=⟨me,S,C,nb,fun _=>zjw (zgi C) S,fun _=>none,0,fun _=>none,[],0,0⟩
def zhM (D:zf) (me:Int) (nb:List Int) (S:ziX) (ld:Option (Int×StW)):Int:=if zg0 me nb 64≠0 then zg0 me nb 64 else if zg4 S≠0 then zg4 S else (za1 D me S.qh S.qb S.qg S.seg ld).2
def zkL (D:zf) (me:Int) (nb:List Int) (S:ziX) (ld:Option (Int×StW)):zf:=if zg0 me nb 64≠0 then D else if zg4 S≠0 then D else (za1 D me S.qh S.qb S.qg S.seg ld).1.D
theorem zC8 {S:ziX} (h:zg4 S=0):¬zcN 0 S.qh S.qb S.qg∧(16≤S.seg∧S.seg≤1048576)∧(1≤S.win∧S.win≤63)∧(1≤S.timer∧S.timer≤64)∧(1≤S.tries∧S.tries≤64)∧1≤S.wait∧S.wait≤64:=by
 unfold zg4 at h;split at h
 ·cases h
 ·rename_i hb;split at h
  ·rename_i hs;simp[okS,okN] at hs;exact⟨hb,by omega,by omega,by omega,by omega,by omega,by omega⟩
  ·cases h
theorem zJ2 {α:Type} (a b c d:α):[a,b,c,d].Perm [c,a,b,d]:=
 List.Perm.append_right [d] (Yda:([a,b]++[c]).Perm ([c]++[a,b]))
theorem zJ3 {α:Type} (a b c d e f:α) (l:List α):(([a,b,c,d]++l)++[e,f]).Perm ([e,d,a,b,c,f]++l):=by
 have h1:(([a,b,c,d]++l)++[e,f]).Perm ([e,f]++([a,b,c,d]++l)):=Yda
 have h2:([e,f]++[a,b,c,d]).Perm [e,d,a,b,c,f]:=by
  refine List.Perm.cons e ?_;show ([f]++([a,b,c]++[d])).Perm ([d]++[a,b,c]++[f])
  exact Yda.trans (List.Perm.append_right [f] Yda)
 have h3:([e,f]++([a,b,c,d]++l)).Perm (([e,f]++[a,b,c,d])++l):=by rw[Yr]
 exact h1.trans (h3.trans (h2.append_right l))
theorem zI2 (a b c m m' x y z r:Pt) (l:List Pt):rpl (((([a,b,c,m]++l)++[x])++[y])++[z]) 3 [m']++[r]=([a,b,c,m']++l)++[x,y,z,r]:=by simp
theorem zEW {nb:List Int} (h:nb.Pairwise (· < ·)) {j:Nat} (hj:j<nb.length):nb[j]∉nb.take j:=fun hm=>by
 obtain⟨i,hi,e⟩:=Ybm hm;rw[List.getElem_take] at e;have hi2:i<min j nb.length:=by simpa using hi
 have:=Ycx.1 h i j oM hj oM;omega
end
end Go.Proofs.YtlgbofpennelhaaGreat
