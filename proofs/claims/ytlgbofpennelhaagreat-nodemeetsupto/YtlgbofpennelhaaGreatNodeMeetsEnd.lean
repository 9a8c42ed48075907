/- NodeMeets: between two linked nodes,nothing being lost,what the one accepts for the other is delivered there,once,in order,as it was,and held no more: for every call of bulk at most 1048576 the law returns true. -/
import Derived.Test.YtlgbofpennelhaaGreatJ18
set_option linter.all false
set_option maxHeartbeats 0
namespace Go.Proofs.YtlgbofpennelhaaGreat
open Go Go.Vm
section
def zoK (o:Int):List Int:=(List.range 64).map fun d:Nat=>if (d:Int)=o then 0 else 16
variable (D:Int→Int→List UInt8)
def wOf:AW→Word
 | .nil=>zeroW
 | .off o n c=>⟨1,n,idO o c,D o c,[]⟩
 | .ack o n c=>⟨2,n,idO o c,[],[]⟩
 | .vec o=>⟨4,0,zaV,[],zoK o⟩
def fOf (w:AW):List UInt8:=match w with
 | .nil=>[]
 | w=>if (wOf D w).err=0 then (wOf D w).bytes else [0]
variable {D}
theorem zjB (w:AW) (h:w ≠ .nil):0<(fOf D w).length∧(fOf D w).length≤121:=by
 have key:∀ x:Word,0<(if x.err=0 then x.bytes else [0]).length∧(if x.err=0 then x.bytes else [0]).length≤121:=fun x=>by
  split
  ·exact zDg ‹_›
  ·simp
 cases w with
 | nil=>exact absurd rfl h
 | off o n c=>exact key _
 | ack o n c=>exact key _
 | vec o=>exact key _
theorem zq3:zbG (fOf D) where
 emp:=rfl
 zero:=fun w=>by
  cases w with
  | nil=>exact Iff.rfl
  | off o n c=>have:=(zjB (D:=D) (.off o n c) oS).1;show (fOf D _).length=0↔(1:Nat)=0;omega
  | ack o n c=>have:=(zjB (D:=D) (.ack o n c) oS).1;show (fOf D _).length=0↔(1:Nat)=0;omega
  | vec o=>have:=(zjB (D:=D) (.vec o) oS).1;show (fOf D _).length=0↔(1:Nat)=0;omega
 len:=fun w=>by
  cases w with
  | nil=>exact Iff.rfl
  | off o n c=>have:=(zjB (D:=D) (.off o n c) oS).2;show 121<(fOf D _).length↔121<(1:Nat);omega
  | ack o n c=>have:=(zjB (D:=D) (.ack o n c) oS).2;show 121<(fOf D _).length↔121<(1:Nat);omega
  | vec o=>have:=(zjB (D:=D) (.vec o) oS).2;show 121<(fOf D _).length↔121<(1:Nat);omega
theorem zzf {o n c:Int} (ho:o=0∨o=1) (hn:0≤n∧n≤65535) (hc:1≤c∧c≤65535) (hD:1≤(D o c).length∧(D o c).length≤48):(wOf D (.off o n c)).err=0:=by
 have hid:=zlN ho hc.1 hc.2;show W.err ⟨1,n,o,1 - o,1,c,none,(D o c).length,0,none,0,0,D o c,[]⟩=0
 unfold W.err W.msgErr msgErr;dsimp only;rw[if_neg oM,if_neg oD,if_pos rfl,hid,if_neg (show ¬(0:Int)≠0 by decide),if_neg (show ¬(D o c).length=0 by omega),if_neg (show ¬48<(D o c).length by omega)];rfl
theorem zzg {o n c:Int} (ho:o=0∨o=1) (hn:0≤n∧n≤65535) (hc:1≤c∧c≤65535):(wOf D (.ack o n c)).err=0:=by
 have hid:=zlN ho hc.1 hc.2;show W.err ⟨2,n,o,1 - o,1,c,none,0,0,none,0,0,[],[]⟩=0
 unfold W.err W.idErr;dsimp only;rw[if_neg oM,if_neg oD,if_neg oD,hid];rfl
theorem zzh {o:Int} (ho:o=0∨o=1):(wOf D (.vec o)).err=0:=by
 rcases ho with rfl|rfl<;>kernel_rfl
theorem zts {w:AW} (hw:w ≠ .nil) (h:(wOf D w).err=0):fOf D w=(wOf D w).bytes:=by
 cases w with
 | nil=>exact absurd rfl hw
 | off o n c=>exact if_pos h
 | ack o n c=>exact if_pos h
 | vec o=>exact if_pos h
def zeY (pe:Int) (l:List (Int×Option (Int×Int))) (c:Int):Option Known:=match ze l c with
 | some (some (n,t))=>some ⟨pe,n,t,0⟩
 | _=>none
structure RA (D:Int→Int→List UInt8) (A:AN) (X:NodX):Prop where
 me:X.me=A.me
 pe:A.pe=1 - A.me
 nb:X.nb=[A.pe]
 set:X.set=zie
 lk:(X.sd A.pe).L=A.L.to (fOf D)
 rs:(X.sd A.pe).resets=A.rs
 inn:(X.sd A.pe).inn=[]
 li:A.L.inn=[]
 out:(X.sd A.pe).out=(A.so.map (CtlR.to (fOf D))).flatMap zb5
 tab:X.tab A.pe=if A.tab=0 then none else some ⟨fun i=>(zoK A.pe).getD i 0,A.tab⟩
 tabr:0≤A.tab∧A.tab≤64
 next:X.next=A.next∧0≤A.next∧A.next≤65535
 dsk:∀ c,X.dsk (idO A.me c)=zeY A.pe A.held c
 hk:∀ h∈A.held,∀ k,h.2=some k→(0≤k.1∧k.1≤65535)∧0≤k.2∧k.2<64
 cu:RC D A.me (A.held.map (·.1)) A.last A.got X.C
 told:X.told=(List.range A.got.toNat).map fun i:Nat=>⟨idO A.pe (i+1),D A.pe (i+1)⟩
 ticks:X.ticks=A.ticks∧0≤A.ticks∧A.ticks≤1000
theorem RA.me01 {A:AN} {X:NodX} (h:RA D A X):A.me=0∨A.me=1:=h.cu.me01
theorem RA.pe01 {A:AN} {X:NodX} (h:RA D A X):A.pe=0∨A.pe=1:=by have:=h.me01;have:=h.pe;omega
theorem RA.link {A:AN} {X:NodX} (h:RA D A X) {L:LnkR AW} (hi:L.inn=[]):RA D { A with L:=L } (X.setSd A.pe { X.sd A.pe with L:=L.to (fOf D) }):=by
 have e:(X.setSd A.pe { X.sd A.pe with L:=L.to (fOf D) }).sd A.pe={ X.sd A.pe with L:=L.to (fOf D) }:=zhf ..;exact⟨h.me,h.pe,h.nb,h.set,by rw[e],by rw[e];exact h.rs,by rw[e];exact h.inn,hi,by rw[e];exact h.out,h.tab,h.tabr,h.next,h.dsk,h.hk,h.cu,h.told,h.ticks⟩
theorem RA.push {A A':AN} {X:NodX} (h:RA D A X) {w:AW} (hw:w ≠ .nil) (he:(wOf D w).err=0) (hp:zfD A w=some A') :
  RA D A' (zbn X A.pe (wOf D w)).1∧(zbn X A.pe (wOf D w)).2=0∧A'={ A with L:=zds A.L w }:=by
 unfold zfD at hp;split at hp
 case isFalse=>cases hp
 rename_i hz;cases hp;unfold zbn;rw[if_neg (by rw[he];decide)];have e1:zeQ (X.sd A.pe).L (wOf D w).bytes=0:=by rw[h.lk,←zts hw he,zux zq3];exact hz
 have e2:zds (X.sd A.pe).L (wOf D w).bytes=(zds A.L w).to (fOf D):=by rw[h.lk,←zts hw he,zFb zq3]
 refine⟨?_,e1,rfl⟩;dsimp only;rw[e2];exact h.link (by rw[zE0];exact h.li)
end
section
variable {D:Int→Int→List UInt8} {A A':AN} {X:NodX}
def zhS (D:Int→Int→List UInt8) (me c:Int):zcO:=⟨idO me c,D me c⟩
def ofO (D:Int→Int→List UInt8) (me pe:Int) (q:Int×Int):zgM:=⟨pe,q.1,zhS D me q.2⟩
def kOf (pe:Int):Option (Int×Int)→Option Known
 | some (n,t)=>some ⟨pe,n,t,0⟩
 | none=>none
theorem zcL (pe:Int) (h:Int×Option (Int×Int)) (r:List (Int×Option (Int×Int))) (c:Int):zeY pe (h::r) c=if h.1=c then kOf pe h.2 else zeY pe r c:=by
 unfold zeY;obtain⟨a,x⟩:=h;rw[ze];by_cases e:a=c
 ·rw[if_pos e,if_pos e];rcases x with _|⟨n,t⟩<;>rfl
 ·rw[if_neg e,if_neg e]
theorem zzi {pe:Int} {l:List (Int×Option (Int×Int))} {c:Int} (h:c∉l.map (·.1)):zeY pe l c=none:=by
 unfold zeY;rw[aget_none.2 h]
theorem zkO:∀ (l:List (Int×Option (Int×Int))) (n:Int),(zbo l n).1.map (·.1)=l.map (·.1)
 | [],n=>rfl
 | (c,none)::r,n=>by rw[zbo];simp[zkO r]
 | (c,some k)::r,n=>by rw[zbo];simp[zkO r]
theorem zoL:∀ (l:List (Int×Option (Int×Int))) {n:Int},0≤n∧n≤65535→(0≤(zbo l n).2.1∧(zbo l n).2.1≤65535)∧(∀ q∈(zbo l n).2.2,(0≤q.1∧q.1≤65535)∧q.2∈l.map (·.1))
 | [],n,h=>⟨h,by simp[zbo]⟩
 | (c,none)::r,n,h=>by
  obtain⟨h1,h2⟩:=zoL r (n:=(n+1) % 65536) oM;rw[zbo];refine⟨h1,fun q hq=>?_⟩;rcases Yp.1 hq with rfl|hq
  ·exact⟨h,by simp⟩
  ·exact⟨(h2 q hq).1,Yak _ (h2 q hq).2⟩
 | (c,some k)::r,n,h=>by
  obtain⟨h1,h2⟩:=zoL r h;rw[zbo];exact⟨h1,fun q hq=>⟨(h2 q hq).1,Yak _ (h2 q hq).2⟩⟩
theorem ztt:∀ (l:List (Int×Option (Int×Int))) {n:Int},0≤n∧n≤65535→(∀ h∈l,∀ k,h.2=some k→(0≤k.1∧k.1≤65535)∧0≤k.2∧k.2<64)→∀ h∈(zbo l n).1,∀ k,h.2=some k→(0≤k.1∧k.1≤65535)∧0≤k.2∧k.2<64
 | [],n,_,_=>by simp[zbo]
 | (c,none)::r,n,hn,hl=>by
  rw[zbo];intro h hh k hk;rcases Yp.1 hh with rfl|hh
  ·cases hk;exact⟨hn,by show (0:Int)≤0;omega,by show (0:Int)<64;omega⟩
  ·exact ztt r oM (fun h hh=>hl h (Yak _ hh)) h hh k hk
 | (c,some k0)::r,n,hn,hl=>by
  rw[zbo];intro h hh k hk;rcases Yp.1 hh with rfl|hh
  ·exact hl _ oS k hk
  ·exact ztt r hn (fun h hh=>hl h (Yak _ hh)) h hh k hk
theorem zoM {me pe:Int} {via up:List Int} (hv:zcq via (idO me 0)=pe) (hu:pe∈up) (hp:1 - me=pe∧(pe=0∨pe=1)):∀ (r:List (Int×Option (Int×Int))) (f:zd8) (n:Int) (out:List zgM),
  (∀ h∈r,f (idO me h.1)=kOf pe h.2)→(r.map (·.1)).Nodup →
  ((r.map fun h=>zhS D me h.1).foldl (zbF via up) ⟨f,n,out⟩).next=(zbo r n).2.1∧((r.map fun h=>zhS D me h.1).foldl (zbF via up) ⟨f,n,out⟩).out=out++(zbo r n).2.2.map (ofO D me pe) ∧
   ∀ c,((r.map fun h=>zhS D me h.1).foldl (zbF via up) ⟨f,n,out⟩).f (idO me c)=if c∈r.map (·.1) then zeY pe (zbo r n).1 c else f (idO me c)
 | [],f,n,out,_,_=>by simp[zbo]
 | (c,x)::r,f,n,out,hf,hn=>by
  rw[Yq] at hn;obtain⟨hn1,hn2⟩:=Yau.1 hn;have hto:∀ c,zcq via (idO me c)=pe:=fun c=>hv
  rw[Yq,Yal];cases x with
  | none=>
   have h0:f (idO me c)=none:=hf (c,none) oS
   have e:zbF via up ⟨f,n,out⟩ (zhS D me c)=⟨fun j=>if j=idO me c then some ⟨pe,n,0,0⟩ else f j,(n+1) % 65536,out++[ofO D me pe (n,c)]⟩:=by
    unfold zbF;rw[if_pos ⟨by show 0≤1 - me∧1 - me<64;omega,by rw[show (zhS D me c).id=idO me c from rfl,hto];exact hu,h0⟩];rw[show (zhS D me c).id=idO me c from rfl,hto];rfl
   rw[e]
   obtain⟨i1,i2,i3⟩:=zoM hv hu hp r (fun j=>if j=idO me c then some ⟨pe,n,0,0⟩ else f j) ((n+1) % 65536) (out++[ofO D me pe (n,c)]) (fun h hh=>by
    rw[if_neg (fun e=>hn1 (by have e2:h.1=c:=congrArg IdT.c e;rw[←e2];exact Yj.2 ⟨h,hh,rfl⟩))]
    exact hf h (Yak _ hh)) hn2
   rw[zbo];refine⟨i1,by rw[i2];simp,fun d=>?_⟩;rw[i3,zcL];by_cases e1:d=c
   ·subst e1;rw[if_neg hn1,if_pos rfl,if_pos oS,if_pos rfl];rfl
   ·rw[if_neg (show ¬c=d from fun e=>e1 e.symm)];have hmem:(d∈((c,(none:Option (Int×Int)))::r).map (·.1))↔d∈r.map (·.1):=by simp[e1]
    simp only[hmem];rw[if_neg (fun e:idO me d=idO me c=>e1 (congrArg IdT.c e))]
  | some k=>
   have h0:f (idO me c)=kOf pe (some k):=hf (c,some k) oS
   have e:zbF via up ⟨f,n,out⟩ (zhS D me c)=⟨f,n,out⟩:=by
    unfold zbF;rw[if_neg];rintro ⟨_,_,h3⟩;have h3:f (idO me c)=none:=h3
    rw[h0] at h3;obtain⟨a,t⟩:=k;cases h3
   rw[e];obtain⟨i1,i2,i3⟩:=zoM hv hu hp r f n out (fun h hh=>hf h (Yak _ hh)) hn2;rw[zbo];refine⟨i1,i2,fun d=>?_⟩;rw[i3,zcL];by_cases e1:d=c
   ·subst e1;rw[if_neg hn1,if_pos oS,if_pos rfl,h0]
   ·rw[if_neg (show ¬c=d from fun e=>e1 e.symm)];have hmem:(d∈((c,some k)::r).map (·.1))↔d∈r.map (·.1):=by simp[e1]
    simp only[hmem]
theorem zuy {via up:List Int} {me:Int} (hv:zcq via (idO me 0)∉up) (s:PlF):∀ (l:List Int),(l.map (zhS D me)).foldl (zbF via up) s=s
 | []=>rfl
 | c::r=>by
  rw[Yq,Yal]
  have e:zbF via up s (zhS D me c)=s:=by
   unfold zbF;rw[if_neg];rintro ⟨_,h2,_⟩;exact hv h2
  rw[e];exact zuy hv s r
theorem RA.l (h:RA D A X):X.C.X.S.l.map zqW=A.held.map fun x=>zhS D A.me x.1:=by
 rw[h.cu.X];unfold stO;dsimp only;rw[Ya4,Ya4];rfl
theorem zzj {o:Int} (h:o=0∨o=1):(zoK o).getD o.toNat 0=0:=by rcases h with rfl|rfl<;>rfl
theorem RA.road (h:RA D A X):zcS X.me X.nb X.tab A.pe=if A.tab=0 then none else some A.pe:=by
 have hpe:=h.pe01;have hp:=h.pe
 unfold zcS;rw[h.me,h.nb];have hn:zbx A.pe=true:=by unfold zbx;rcases hpe with e|e<;>rw[e]<;>rfl
 rw[hn,if_pos oE]
 have hc:zgS A.me [A.pe] X.tab A.pe=if A.tab=0 then 16 else 1:=by
  unfold zgS;rw[hn,if_pos rfl,if_neg oM];simp only[Yb3,List.foldr_nil];unfold byF;rw[h.tab];by_cases ht:A.tab=0
  ·rw[if_pos ht,if_pos ht];rfl
  ·rw[if_neg ht,if_neg ht];dsimp only;rw[zzj hpe];rfl
 rw[hc];by_cases ht:A.tab=0
 ·rw[if_pos ht,if_pos ht,if_neg oD]
 ·rw[if_neg ht,if_neg ht,if_pos oD]
  have:byF X.tab A.pe A.pe=1:=by
   unfold byF;rw[h.tab,if_neg ht];dsimp only;rw[zzj hpe];rfl
  simp[List.find?, this]
theorem zxd (X:NodX) {pe:Int} (hn:zcS X.me X.nb X.tab pe=some pe):∀ (l:List zcF) (v:List Int),(∀ m∈l,m.id.d=pe)→v.length=64→(l≠[]∨v.getD pe.toNat 0=pe)→0≤pe∧pe<64 →
  (l.foldl (fun v m=>match zcS X.me X.nb X.tab m.id.d with|some k=>v.set m.id.d.toNat k|none=>v) v).getD pe.toNat 0=pe
 | [],v,_,_,h,_=>h.resolve_left fun e=>e rfl
 | m::r,v,hl,hv,_,hp=>by
  rw[Yal];have hm:=hl m oS
  have e:(match zcS X.me X.nb X.tab m.id.d with|some k=>v.set m.id.d.toNat k|none=>v)=v.set pe.toNat pe:=by rw[hm,hn]
  rw[e];exact zxd X hn r _ (fun m hm=>hl m (Yak _ hm)) (by simp[hv]) (.inr (by rw[Ys,Ycp oM];rfl)) hp
theorem zxe (X:NodX) {pe:Int} (hn:zcS X.me X.nb X.tab pe=none):∀ (l:List zcF) (v:List Int),(∀ m∈l,m.id.d=pe)→(l.foldl (fun v m=>match zcS X.me X.nb X.tab m.id.d with|some k=>v.set m.id.d.toNat k|none=>v) v)=v
 | [],v,_=>rfl
 | m::r,v,hl=>by
  rw[Yal];have hm:=hl m oS
  have e:(match zcS X.me X.nb X.tab m.id.d with|some k=>v.set m.id.d.toNat k|none=>v)=v:=by rw[hm,hn]
  rw[e];exact zxe X hn r v fun m hm=>hl m (Yak _ hm)
end
section
variable {D:Int→Int→List UInt8} {A A':AN} {X:NodX}
def DOk (D:Int→Int→List UInt8):Prop:=∀ o c,1≤(D o c).length∧(D o c).length≤48
theorem zxf (hD:DOk D):∀ (l:List (Int×Int)) {A A':AN} {X:NodX},RA D A X→(∀ q∈l,(0≤q.1∧q.1≤65535)∧1≤q.2∧q.2≤65535)→zkc l A=some A'→RA D A' ((l.map (ofO D A.me A.pe)).foldl zd9 X)∧A'.pe=A.pe
 | [],A,A',X,h,_,e=>by cases e;exact⟨h,rfl⟩
 | (n,c)::r,A,A',X,h,hl,e=>by
  rw[zkc] at e;have hq:=hl (n,c) oS
  cases hp:zfD A (.off A.me n c) with
  | none=>rw[hp] at e;cases e
  | some B=>
   rw[hp] at e;have he:(wOf D (.off A.me n c)).err=0:=zzf h.me01 hq.1 hq.2 (hD _ _)
   obtain⟨h1,h2,h3⟩:=h.push oS he hp
   have hg:zd9 X (ofO D A.me A.pe (n,c))=(zbn X A.pe (wOf D (.off A.me n c))).1:=by
    unfold zd9;show (if (zbn X A.pe (wOf D (.off A.me n c))).2≠0 then _ else _)=_
    rw[if_neg (by rw[h2];decide)];rfl
   rw[Yq,Yal,hg];have hm:B.me=A.me∧B.pe=A.pe:=by rw[h3];exact⟨rfl,rfl⟩
   obtain⟨i1,i2⟩:=zxf hD r h1 (fun q hq=>hl q (Yak _ hq)) e;rw[hm.1,hm.2] at i1;exact⟨i1,i2.trans hm.2⟩
theorem RA.ups (h:RA D A X):zeW X=if A.L.up=true then [A.pe] else []:=by
 have hu:(X.sd A.pe).L.up=A.L.up:=by rw[h.lk];rfl
 unfold zeW;rw[h.nb];by_cases e:A.L.up=true
 ·rw[if_pos e];simp[hu,e]
 ·rw[if_neg e];simp[hu,e]
theorem RA.offer (hD:DOk D) (h:RA D A X) (e:zgF A=some A'):RA D A' (zdm X (zeW X))∧A'.pe=A.pe:=by
 have hpe:=h.pe01;have hp:=h.pe
 have hlen:(∀ m∈X.C.X.S.l,m.id.d=A.pe):=fun m hm=>by
  rw[h.cu.X] at hm;obtain⟨c,_,rfl⟩:=Yj.1 hm;show 1 - A.me=A.pe
  omega
 have hl:=h.l
 have hkey:∀ x∈A.held,X.dsk (idO A.me x.1)=kOf A.pe x.2:=fun x hx=>by
  rw[h.dsk];have hnd:=h.cu.nd
  have:∀ (l:List (Int×Option (Int×Int))),(l.map (·.1)).Nodup→x∈l→zeY A.pe l x.1=kOf A.pe x.2:=by
   intro l
   induction l with
   | nil=>intro _ h;cases h
   | cons y r ih=>
    intro hn hm;rw[Yq] at hn;obtain⟨n1,n2⟩:=Yau.1 hn;rw[zcL];rcases Yp.1 hm with rfl|hm
    ·rw[if_pos rfl]
    ·rw[if_neg (fun e=>n1 (by rw[e];exact Yj.2 ⟨x,hm,rfl⟩))];exact ih n2 hm
  exact this _ hnd hx
 unfold zdm;by_cases h0:X.C.X.S.l.length=0
 ·rw[if_pos h0]
  have hnil:A.held=[]:=by
   have:=congrArg List.length hl;rw[Y9,Y9,h0] at this;exact Y8 this.symm
  unfold zgF at e;rw[hnil] at e;simp only[zbo,zkc] at e;split at e
  ·cases e;exact⟨⟨h.me,h.pe,h.nb,h.set,h.lk,h.rs,h.inn,h.li,h.out,h.tab,h.tabr,h.next,by have:=h.dsk;rw[hnil] at this;exact this,by simp,by have:=h.cu;rw[hnil] at this;exact this,h.told,h.ticks⟩,rfl⟩
  ·cases e;exact⟨h,rfl⟩
 rw[if_neg h0];have hne:X.C.X.S.l≠[]:=fun e=>h0 (by rw[e];rfl)
 by_cases hg:A.tab≠0∧A.L.up=true
 ·unfold zgF at e;rw[if_pos hg] at e;have hups:zeW X=[A.pe]:=by rw[h.ups,if_pos hg.2]
  have hn:zcS X.me X.nb X.tab A.pe=some A.pe:=by rw[h.road,if_neg hg.1]
  have hvia:zcq (zj6 X) (idO A.me 0)=A.pe:=by
   unfold zcq;show (zj6 X).getD (1 - A.me).toNat 0=A.pe
   rw[←hp];exact zxd X hn _ _ hlen oS (.inl hne) oM
  obtain⟨p1,p2,p3⟩:=zoM (D:=D) (via:=zj6 X) (up:=[A.pe]) hvia oS ⟨hp.symm,hpe⟩ A.held X.dsk X.next [] hkey h.cu.nd;have hpl:zet X (zeW X)=(A.held.map fun x=>zhS D A.me x.1).foldl (zbF (zj6 X) [A.pe]) ⟨X.dsk,X.next,[]⟩:=by unfold zet zfe;rw[hl,hups]
  rw[←hpl] at p1 p2 p3;rw[h.next.1] at p1 p2 p3;rw[p2,Yaa];obtain⟨n1,n2⟩:=zoL A.held h.next.2
  have hB:RA D { A with held:=(zbo A.held A.next).1,next:=(zbo A.held A.next).2.1 } { X with dsk:=(zet X (zeW X)).f,next:=(zet X (zeW X)).next }:=by
   refine⟨h.me,h.pe,h.nb,h.set,h.lk,h.rs,h.inn,h.li,h.out,h.tab,h.tabr,⟨p1,n1⟩,fun c=>?_,ztt _ h.next.2 h.hk,?_,h.told,h.ticks⟩
   ·show (zet X (zeW X)).f (idO A.me c)=_;rw[p3];by_cases hc:c∈A.held.map (·.1)
    ·rw[if_pos hc]
    ·rw[if_neg hc,h.dsk,zzi hc,zzi (by rw[zkO];exact hc)]
   ·show RC D A.me ((zbo A.held A.next).1.map (·.1)) A.last A.got X.C;rw[zkO];exact h.cu
  have hz:=zxf hD _ hB (fun q hq=>by
   obtain⟨a1,a2⟩:=n2 q hq;have:=h.cu.cs q.2 a2
   have:=h.cu.rg
   exact⟨a1,by omega,by omega⟩) e
  exact hz
 ·unfold zgF at e;rw[if_neg hg] at e;cases e
  have hpl:zet X (zeW X)=⟨X.dsk,X.next,[]⟩:=by
   unfold zet zfe;rw[hl];have:(A.held.map fun x=>zhS D A.me x.1)=(A.held.map (·.1)).map (zhS D A.me):=by rw[Ya4];rfl
   rw[this];refine zuy ?_ _ _;rw[h.ups];split
   ·rename_i hu;have ht:A.tab=0:=Ybe fun h=>hg ⟨h,hu⟩
    have hn:zcS X.me X.nb X.tab A.pe=none:=by rw[h.road,if_pos ht]
    have hv:zj6 X=List.replicate 64 (-1):=zxe X hn _ _ hlen;rw[hv];unfold zcq;show (List.replicate 64 (-1:Int)).getD (1 - A.me).toNat 0∉[A.pe]
    rw[←hp];rcases hpe with e|e<;>rw[e]<;>decide
   ·simp
  rw[hpl];exact⟨h,rfl⟩
theorem RA.drain (h:RA D A X):RA D (zlL A) (zc0 X A.pe):=by
 have e:(zc0 X A.pe).sd A.pe=zsk (X.sd A.pe):=zhf ..;refine⟨h.me,h.pe,h.nb,h.set,?_,?_,?_,h.li,?_,h.tab,h.tabr,h.next,h.dsk,h.hk,h.cu,h.told,h.ticks⟩
 ·show ((zc0 X A.pe).sd A.pe).L=_;rw[e];show ({ (X.sd A.pe).L with out:=[] }:za8)=_
  rw[h.lk];rfl
 ·show ((zc0 X A.pe).sd A.pe).resets=A.rs;rw[e];exact h.rs
 ·show ((zc0 X A.pe).sd A.pe).inn=[]
  rw[e];exact h.inn
 ·show ((zc0 X A.pe).sd A.pe).out=_;rw[e];show (X.sd A.pe).out++(X.sd A.pe).L.out.flatMap zb5=((A.so++A.L.out).map (CtlR.to (fOf D))).flatMap zb5
  rw[h.out,h.lk,Yv,Ydj];rfl
theorem zuz (pe:Int):∀ (l:List (Int×Option (Int×Int))) (c:Int),zeY pe (l.map fun h=>(h.1,none)) c=none
 | [],c=>rfl
 | h::r,c=>by
  rw[Yq,zcL,zuz pe r c];split<;>rfl
theorem RA.hard (h:RA D A X):RA D (zhO A) (zbS X A.pe)∧(zhO A).pe=A.pe∧(zbS X A.pe).nb=X.nb∧(zbS X A.pe).C=X.C:=by
 have hr:(X.sd A.pe).L.resets=A.L.resets:=by rw[h.lk];rfl
 unfold zhO zbS;rw[hr,h.rs];by_cases e:A.L.resets≠A.rs
 ·rw[if_pos e,if_pos e];refine⟨?_,rfl,rfl,rfl⟩;have e1:(X.setSd A.pe { X.sd A.pe with resets:=A.L.resets }).sd A.pe={ X.sd A.pe with resets:=A.L.resets }:=zhf ..
  refine⟨h.me,h.pe,h.nb,h.set,by show ((X.setSd A.pe _).sd A.pe).L=_;rw[e1];exact h.lk,by show ((X.setSd A.pe _).sd A.pe).resets=_;rw[e1],by show ((X.setSd A.pe _).sd A.pe).inn=_;rw[e1];exact h.inn,h.li,by show ((X.setSd A.pe _).sd A.pe).out=_;rw[e1];exact h.out,h.tab,h.tabr,h.next,fun c=>?_,fun x hx k hk=>?_,?_,h.told,h.ticks⟩
  ·show ziK X.dsk A.pe (idO A.me c)=_;rw[zuz];unfold ziK;rw[h.dsk];unfold zeY;rcases ze A.held c with _|_|⟨n,t⟩
   ·rfl
   ·rfl
   ·show (if toK A.pe ⟨A.pe,n,t,0⟩ then _ else _)=_;rw[if_pos (by simp[toK])]
  ·obtain⟨y,_,rfl⟩:=Yj.1 hx;cases hk
  ·show RC D A.me ((A.held.map fun h=>(h.1,(none:Option (Int×Int)))).map (·.1)) _ _ _;rw[Ya4];exact h.cu
 ·rw[if_neg e,if_neg e];exact⟨h,rfl,rfl,rfl⟩
theorem RA.works (hD:DOk D) (h:RA D A X) (e:zhP A=some A'):RA D A' (zc1 X):=by
 unfold zhP at e;obtain⟨h0,p0,n0,c0⟩:=h.hard;cases ho:zgF (zhO A) with
 | none=>rw[ho] at e;cases e
 | some B=>
  rw[ho] at e;cases e;obtain⟨h1,h2⟩:=h0.offer hD ho;unfold zc1 zd6;have hh:X.nb.foldl zbS X=zbS X A.pe:=by rw[h.nb];rfl
  have hu:zeW (zbS X A.pe)=zeW X:=by rw[h0.ups,h.ups,p0];unfold zhO;split<;>rfl
  rw[hh,if_neg (by rw[c0,h.cu.live];decide),←hu,h.nb];show RA D (zlL B) (zc0 (zdm (zbS X A.pe) (zeW (zbS X A.pe))) A.pe)
  have e3:=h1.drain;rw[h2,p0] at e3;exact e3
end
section
variable {D:Int→Int→List UInt8} {A A':AN} {X:NodX}
theorem zDv {α:Type} [Pay α] (L:LnkR α):(zcR L).inn=L.inn:=by
 unfold zcR;dsimp only;split
 ·rfl
 split
 ·rfl
 split
 ·rfl
 split
 ·split<;>rfl
 split<;>rfl
theorem zJh {me pe:Int} (h:me=0∨me=1) (hp:pe=1 - me) (f:zg2):((List.range 64).map fun (d:Nat)=>ztl me [pe] f pe d)=zoK me:=by
 unfold zoK;refine Yav fun d hd=>?_
 have hd:d<64:=Ydv.1 hd;have hn:zbx (d:Int)=true:=by unfold zbx;simp;omega
 have hb:byF f d pe≤16:=by unfold byF;split<;>omega
 have hc:(d:Int)≠me→zgS me [pe] f d=byF f d pe:=fun hne=>by
  unfold zgS;rw[hn,if_pos rfl,if_neg hne];simp only[Yb3,List.foldr_nil];omega
 unfold ztl;by_cases e:(d:Int)=me
 ·rw[if_pos e];have:zcS me [pe] f d=none:=by unfold zcS;rw[hn,if_neg (by simp[e])]
  rw[this,if_neg oS];unfold zgS;rw[hn,if_pos rfl,if_pos e]
 ·rw[if_neg e]
  have hx:zcS me [pe] f d=if byF f d pe<16 then some pe else none:=by
   unfold zcS;have h1:(zbx (d:Int)&&decide ((d:Int)≠me))=true:=by rw[hn];simp[e]
   rw[h1,if_pos rfl,hc e];by_cases h16:byF f d pe<16
   ·rw[if_pos h16,if_pos h16];simp[List.find?]
   ·rw[if_neg h16,if_neg h16]
  rw[hx,hc e];by_cases h16:byF f d pe<16
  ·rw[if_pos h16,if_pos rfl]
  ·rw[if_neg h16,if_neg oS];omega
theorem zFi (pe:Int):∀ (k:Option (Int×Int)),(∀ q,k=some q→0≤q.2∧q.2<64)→(kOf pe k).bind zd7=kOf pe (zoJ k)
 | none,_=>rfl
 | some (n,t),h=>by
  have:=h _ rfl;dsimp only at this;show zd7 ⟨pe,n,t,0⟩=_
  unfold zd7 zoJ;dsimp only;rw[if_neg oD];by_cases e:t+1=64
  ·rw[if_pos ⟨rfl,.inr e⟩,if_pos e];rfl
  ·rw[if_neg oM,if_neg e];rfl
theorem zuA (pe:Int):∀ (l:List (Int×Option (Int×Int))) (c:Int),(∀ h∈l,∀ q,h.2=some q→0≤q.2∧q.2<64)→(zeY pe l c).bind zd7=zeY pe (l.map fun h=>(h.1,zoJ h.2)) c
 | [],c,_=>rfl
 | h::r,c,hl=>by
  rw[Yq,zcL,zcL];by_cases e:h.1=c
  ·rw[if_pos e,if_pos e];exact zFi pe h.2 (hl h oS)
  ·rw[if_neg e,if_neg e];exact zuA pe r c fun x hx=>hl x (Yak _ hx)
theorem RA.mid (h:RA D A X) (ht:A.ticks<1000):RA D (zkd A) (zbr X):=by
 have hr:=h.ticks
 have e1:zeH X=({ X with ticks:=inc X.ticks,tab:=zgh X.tab }:NodX).setSd A.pe { X.sd A.pe with L:=zcR (X.sd A.pe).L }:=by
  unfold zeH;rw[h.nb];rfl
 have e2:(zbr X).sd A.pe={ X.sd A.pe with L:=zcR (X.sd A.pe).L }:=by
  show (zeH X).sd A.pe=_;rw[e1];exact zhf ..
 have ei:inc X.ticks=A.ticks+1:=by
  rw[hr.1];unfold inc;exact wrap_i64 oM
 refine⟨?_,h.pe,?_,?_,?_,by show ((zbr X).sd A.pe).resets=_;rw[e2];exact h.rs,by show ((zbr X).sd A.pe).inn=_;rw[e2];exact h.inn,by show (zcR A.L).inn=[];rw[zDv];exact h.li,by show ((zbr X).sd A.pe).out=_;rw[e2];exact h.out,?_,?_,?_,fun c=>?_,fun x hx k hk=>?_,?_,?_,?_⟩
 ·show (zeH X).me=_;rw[e1];exact h.me
 ·show (zeH X).nb=_;rw[e1];exact h.nb
 ·show (zeH X).set=_;rw[e1];exact h.set
 ·show ((zbr X).sd A.pe).L=_;rw[e2];show zcR (X.sd A.pe).L=(zcR A.L).to (fOf D)
  rw[h.lk,zFe zq3]
 ·show (zeH X).tab A.pe=if (if A.tab=0 then 0 else A.tab - 1)=0 then none else _
  rw[e1];show zjr (X.tab A.pe)=_
  rw[h.tab];have:=h.tabr
  by_cases e:A.tab=0
  ·rw[if_pos e,if_pos e,if_pos rfl];rfl
  ·rw[if_neg e,if_neg e];unfold zjr;dsimp only;by_cases e1:A.tab=1
   ·rw[if_pos e1,if_pos oM]
   ·rw[if_neg e1,if_neg oM];show _=some (⟨_,if A.tab=0 then 0 else A.tab - 1⟩:Hrd)
    rw[if_neg e];rfl
 ·show 0≤(if A.tab=0 then 0 else A.tab - 1)∧(if A.tab=0 then 0 else A.tab - 1)≤64;have:=h.tabr
  split<;>omega
 ·show (zeH X).next=_∧_;rw[e1];exact h.next
 ·show ((zeH X).dsk (idO A.me c)).bind zd7=_;rw[e1];show (X.dsk (idO A.me c)).bind zd7=_
  rw[h.dsk];exact zuA _ _ _ fun x hx q hq=>(h.hk x hx q hq).2
 ·obtain⟨y,hy,rfl⟩:=Yj.1 hx;obtain⟨c,z⟩:=y;rcases z with _|⟨n,t⟩
  ·cases hk
  ·have h3:=h.hk _ hy _ rfl;dsimp only at h3;have hk:(if t+1=64 then none else some (n,t+1))=some k:=hk
   by_cases e64:t+1=64
   ·rw[if_pos e64] at hk;cases hk
   ·rw[if_neg e64] at hk;rw[←Yb2 hk];dsimp only;omega
 ·show RC D A.me ((A.held.map fun h=>(h.1,zoJ h.2)).map (·.1)) _ _ (zeH X).C;rw[e1,Ya4];exact h.cu
 ·show (zeH X).told=_;rw[e1];exact h.told
 ·show (zeH X).ticks=A.ticks+1∧_;rw[e1];exact⟨ei,by show 0≤A.ticks+1;omega,by show A.ticks+1≤1000;omega⟩
theorem RA.tik (hD:DOk D) (h:RA D A X) (e:zo2 A=some A'):RA D A' (zkK X).1:=by
 unfold zo2 at e;split at e
 case isFalse=>cases e
 rename_i ht;have h2:=h.mid ht
 have hr:=h.ticks
 have ei:inc X.ticks=A.ticks+1:=by
  rw[hr.1];unfold inc;exact wrap_i64 oM
 have hup:((zbr X).sd A.pe).L.up=(zcR A.L).up:=by
  have h3:((zbr X).sd (zkd A).pe).L.up=(zkd A).L.up:=by rw[h2.lk];rfl
  exact h3
 unfold zkK;rw[if_neg (by rw[h.cu.live];decide)];show RA D A' (zc1 (zea X))
 unfold zea;rw[ei,h.set];show RA D A' (zc1 (if Int.tmod (A.ticks+1) 3=0 then X.nb.foldl zce (zbr X) else zbr X))
 rw[h.nb];by_cases e3:Int.tmod (A.ticks+1) 3=0
 ·rw[if_pos e3];show RA D A' (zc1 (zce (zbr X) A.pe))
  unfold zce;rw[hup];by_cases hu:(zcR A.L).up=true
  ·rw[if_pos hu];rw[if_pos ⟨e3,hu⟩] at e;cases hp:zfD (zkd A) (.vec A.me) with
   | none=>rw[hp] at e;cases e
   | some B=>
    rw[hp] at e;obtain⟨p1,p2,p3⟩:=h2.push oS (zzh h.me01) hp
    have hv:zln (zbr X) A.pe=zoK A.me:=by
     unfold zln;have hnb:(zbr X).nb=[A.pe]:=h2.nb
     have hme:(zbr X).me=A.me:=h2.me;rw[hnb,hme];exact zJh h.me01 h.pe _
    rw[hv];exact p1.works hD e
  ·rw[if_neg hu];rw[if_neg (fun h=>hu h.2)] at e;exact h2.works hD e
 ·rw[if_neg e3];rw[if_neg (fun h=>e3 h.1)] at e;exact h2.works hD e
end
section
variable {D:Int→Int→List UInt8} {A A':AN} {X:NodX}
theorem zq4 {w:AW} (hw:w ≠ .nil) (he:(wOf D w).err=0):zcw (fOf D w)=some (wOf D w):=by rw[zts hw he,zHl _ he]
theorem zyg (n:Nat) (f:Nat→zcO):(List.range (n+1)).map f=(List.range n).map f++[f n]:=by rw[List.range_succ,Yv];rfl
theorem RA.came (h:RA D A X) {n c:Int} (hn:0≤n∧n≤65535) (hc:1≤c∧c≤A.got+1∧c≤20) (e:zfD { A with got:=if c≤A.got then A.got else c } (.ack A.pe n c)=some A') :
  RA D A' (zfX X A.pe (wOf D (.off A.pe n c))):=by
 have hp:=h.pe;have hpe:=h.pe01
 have hgot:=h.cu.rg.2;have hme:1 - A.pe=A.me:=by omega
 have hack:(wOf D (.ack A.pe n c)).err=0:=zzg hpe hn oM;have hid:(wOf D (.off A.pe n c)).id=idO A.pe c:=rfl
 have hd:(wOf D (.off A.pe n c)).id.d=X.me:=by show 1 - A.pe=X.me;rw[h.me];exact hme
 have hs:zkI X.C (wOf D (.off A.pe n c)).id=decide (c≤A.got):=by
  have:=h.cu.seen (c:=c) hc.1 oM;rw[←hp] at this;exact this
 have fin:∀ {Y:NodX},RA D { A with got:=if c≤A.got then A.got else c } Y→zc2 X (wOf D (.off A.pe n c))=(Y,0)→RA D A' (zfX X A.pe (wOf D (.off A.pe n c))):=fun {Y} hY e1=>by
  unfold zfX;rw[e1];dsimp only;rw[if_neg (by rw[hY.cu.live];decide),if_pos rfl];exact(hY.push oS hack e).1
 by_cases hold:c≤A.got
 ·refine fin (Y:=X) (by rw[if_pos hold];exact h) ?_;unfold zc2;rw[if_pos hd,hs,if_pos (by simp[hold])]
 ·have hc1:c=A.got+1:=by omega
  have hdel:=h.cu.deliver oM;rw[←hp,←hc1] at hdel;refine fin (Y:={ X with C:=(zad X.C 4 (idO A.pe c) [] true).1,told:=X.told++[⟨idO A.pe c,D A.pe c⟩] }) ?_ ?_
  ·rw[if_neg hold];refine⟨h.me,h.pe,h.nb,h.set,h.lk,h.rs,h.inn,h.li,h.out,h.tab,h.tabr,h.next,h.dsk,h.hk,hdel.2,?_,h.ticks⟩;show X.told++[_]=(List.range c.toNat).map _
   rw[hc1,show (A.got+1).toNat=A.got.toNat+1 by omega,zyg,h.told];congr 3
   ·show idO A.pe (A.got+1)=_;rw[show ((A.got.toNat:Nat):Int)=A.got by omega]
   ·show D A.pe (A.got+1)=_;rw[show ((A.got.toNat:Nat):Int)=A.got by omega]
  ·unfold zc2;rw[if_pos hd,hs,if_neg (by simp[hold])];show (({ X with C:=(zad X.C 4 (idO A.pe c) [] true).1,told:=if (zad X.C 4 (idO A.pe c) [] true).2=0 then X.told++[⟨idO A.pe c,D A.pe c⟩] else X.told }:NodX),if (zad X.C 4 (idO A.pe c) [] true).2=5 then (0:Int) else (zad X.C 4 (idO A.pe c) [] true).2)=_
   rw[hdel.1,if_pos rfl,if_neg oD]
theorem zHx (pe:Int) (l:List (Int×Option (Int×Int))) (f:zd8) (i:IdT) (n c:Int) (hf:f i=zeY pe l c):zg3 f pe n i=zw8 l n c:=by
 unfold zg3 zw8;rw[hf];unfold zeY;rcases ze l c with _|_|⟨a,t⟩
 ·rfl
 ·rfl
 ·simp
theorem zlp (pe:Int):∀ (l:List (Int×Option (Int×Int))) (c d:Int),zeY pe (l.filter fun h=>decide (h.1≠c)) d=if d=c then none else zeY pe l d
 | [],c,d=>by simp[zeY,ze]
 | h::r,c,d=>by
  by_cases e:h.1=c
  ·rw[List.filter_cons_of_neg (by simp[e]),zlp pe r c d,zcL];by_cases e2:d=c
   ·rw[if_pos e2,if_pos e2]
   ·rw[if_neg e2,if_neg e2,if_neg oM]
  ·rw[List.filter_cons_of_pos (by simp[e]),zcL,zcL,zlp pe r c d];by_cases e2:d=c
   ·rw[if_pos e2,if_pos e2,if_neg oM]
   ·rw[if_neg e2,if_neg e2]
theorem RA.word (hD:DOk D) (h:RA D A X) {w:AW} (e:zo3 A w=some A'):RA D A' (zcT A.pe X (fOf D w))∧A'.pe=A.pe:=by
 have hp:=h.pe;have hpe:=h.pe01
 have hm:=h.me01;unfold zcT;rw[if_neg (by rw[h.cu.live];decide)];unfold ziu
 have hpA:∀ {B C:AN} {w:AW},zfD B w=some C→C.pe=B.pe:=fun {B C w} hh=>by
  unfold zfD at hh;split at hh
  ·cases hh;rfl
  ·cases hh
 cases w with
 | nil=>cases e
 | off o n c=>
  rw[zo3] at e;split at e
  rotate_left
  ·cases e
  rename_i hc;obtain⟨rfl,hn,hc⟩:=hc;rw[zq4 oS (zzf hpe hn oM (hD _ _))];refine⟨?_,(hpA e).trans rfl⟩;show RA D A' (zit X A.pe (wOf D (.off A.pe n c)))
  unfold zit;rw[if_pos (show (wOf D (.off A.pe n c)).kind=1 from rfl)];exact h.came hn oM e
 | ack o n c=>
  rw[zo3] at e;split at e
  rotate_left
  ·cases e
  rename_i hc;obtain⟨rfl,hn,hc⟩:=hc;rw[zq4 oS (zzg hm hn oM)];show RA D A' (zit X A.pe (wOf D (.ack A.me n c)))∧_
  unfold zit;rw[if_neg (by show ¬(2:Int)=1;decide),if_pos (show (wOf D (.ack A.me n c)).kind=2 from rfl)];show RA D A' (if zg3 X.dsk A.pe n (idO A.me c)=true then { X with dsk:=zmQ X.dsk (idO A.me c),C:=(zad X.C 3 (idO A.me c) [] false).1 } else X)∧_
  rw[zHx A.pe A.held X.dsk (idO A.me c) n c (h.dsk c)];by_cases ha:zw8 A.held n c=true
  ·rw[if_pos ha] at e ⊢;cases e
   have hmem:c∈A.held.map (·.1):=by
    apply Ybe;intro hno;unfold zw8 at ha;rw[aget_none.2 hno] at ha;cases ha
   have hrel:=h.cu.release hmem;refine⟨⟨h.me,h.pe,h.nb,h.set,h.lk,h.rs,h.inn,h.li,h.out,h.tab,h.tabr,h.next,fun d=>?_,fun x hx=>h.hk x (Ya3.1 hx).1,?_,h.told,h.ticks⟩,rfl⟩
   ·show (if idO A.me d=idO A.me c then none else X.dsk (idO A.me d))=_;rw[zlp,h.dsk];by_cases e2:d=c
    ·rw[if_pos e2,if_pos (by rw[e2])]
    ·rw[if_neg e2,if_neg (fun e=>e2 (congrArg IdT.c e))]
   ·have:=hrel.2;rw[Ydn] at this;exact this
  ·rw[if_neg ha] at e ⊢;cases e;exact⟨h,rfl⟩
 | vec o=>
  rw[zo3] at e;split at e
  rotate_left
  ·cases e
  rename_i hc;subst hc;cases e;rw[zq4 oS (zzh hpe)];show RA D _ (zit X A.pe (wOf D (.vec A.pe)))∧_
  unfold zit;rw[if_neg (by show ¬(4:Int)=1;decide),if_neg (by show ¬(4:Int)=2;decide),if_neg (by show ¬(4:Int)=3;decide)];refine⟨⟨h.me,h.pe,h.nb,h.set,h.lk,h.rs,h.inn,h.li,h.out,?_,by show (0:Int)≤64∧(64:Int)≤64;omega,h.next,h.dsk,h.hk,h.cu,h.told,h.ticks⟩,rfl⟩;show zjv X.nb 64 X.tab A.pe (zoK A.pe) A.pe=_
  have hr:zfl (zoK A.pe)=true:=by rcases hpe with e|e<;>rw[e]<;>decide
  unfold zjv;rw[h.nb,if_pos ⟨by simp,hr⟩,if_pos rfl,if_neg (show ¬(64:Int)=0 by decide)]
theorem zxg (hD:DOk D):∀ (l:List AW) {A A':AN} {X:NodX},RA D A X→zst l A=some A'→RA D A' ((l.map (fOf D)).foldl (zcT A.pe) X)∧A'.pe=A.pe
 | [],A,A',X,h,e=>by cases e;exact⟨h,rfl⟩
 | w::r,A,A',X,h,e=>by
  rw[zst] at e;cases hw:zo3 A w with
  | none=>rw[hw] at e;cases e
  | some B=>
   rw[hw] at e;obtain⟨h1,h2⟩:=h.word hD hw;obtain⟨h3,h4⟩:=zxg hD r h1 e;rw[Yq,Yal];rw[h2] at h3;exact⟨h3,h4.trans h2⟩
end
section
variable {D:Int→Int→List UInt8} {A A':AN} {X:NodX}
theorem zxh {c d:CtlR AW} (h:isC c d=true):c=d:=by
 obtain⟨a1,a2,a3,a4,a5,a6,a7⟩:=c;obtain⟨b1,b2,b3,b4,b5,b6,b7⟩:=d;unfold isC at h;simp only[Yl,decide_eq_true_eq,beq_iff_eq] at h;obtain⟨⟨⟨⟨⟨⟨rfl,rfl⟩,rfl⟩,rfl⟩,rfl⟩,rfl⟩,rfl⟩:=h;rfl
theorem zxi {c:CtlR AW} (h:okC c=true):zcj (c.to (fOf D))=0∧zdk (za9 (c.to (fOf D)))=some (c.to (fOf D))∧0<(za9 (c.to (fOf D))).length∧(za9 (c.to (fOf D))).length≤128:=by
 have hl:zcj (c.to (fOf D))=0→0<(za9 (c.to (fOf D))).length∧(za9 (c.to (fOf D))).length≤128:=fun he=>by
  have h1:=zs5 (c.to (fOf D));have h2:=(ziE he).1
  rw[zkD];omega
 unfold okC at h;rw[Ydl,Ydl] at h;rcases h with (h|h)|h
 ·rw[zxh h];have he:zcj (c5.to (fOf D))=0:=by rw[ztq zq3];decide
  have hl:=hl;rw[zxh h] at hl;exact⟨he,by show zdk (za9 ⟨5,0,0,false,512,0,[]⟩)=some ⟨5,0,0,false,512,0,[]⟩;kernel_rfl,hl he⟩
 ·have hl:=hl;rw[zxh h] at hl ⊢;have he:zcj (c6.to (fOf D))=0:=by rw[ztq zq3];decide
  exact⟨he,by show zdk (za9 ⟨6,0,0,false,512,512,[]⟩)=some ⟨6,0,0,false,512,512,[]⟩;kernel_rfl,hl he⟩
 ·rw[Yl,Yl,Ydl,Yl,Yl] at h;obtain⟨⟨h1,h2⟩,h3⟩:=h;have he:zcj (c.to (fOf D))=0:=by rw[ztq zq3];exact Zd0 h1
  refine⟨he,zHm he ?_ (by show c.p=false;simpa using h2),hl he⟩;rcases h3 with h3|h3
  ·exact .inl (Zd0 h3)
  ·exact .inr ⟨Zd0 h3.1.1,Zd0 h3.1.2⟩
theorem zzk:∀ (cs:List (CtlR AW)),cs.all okC=true→(cs.map (CtlR.to (fOf D))).flatMap zb5=((cs.map (CtlR.to (fOf D))).map za9).flatMap zeq
 | [],_=>rfl
 | c::r,h=>by
  rw[Ydy,Yl] at h;rw[Yq,Ybn,Yq,Ybn,zzk r h.2];congr 1;unfold zb5;rw[if_pos (zxi h.1).1]
theorem zq5 (hD:DOk D):∀ (cs:List (CtlR AW)) {A A':AN} {X:NodX},cs.all okC=true→RA D A X→zlM cs A=some A'→RA D A' (((cs.map (CtlR.to (fOf D))).map za9).foldl (zgV A.pe) X)∧A'.pe=A.pe
 | [],A,A',X,_,h,e=>by cases e;exact⟨h,rfl⟩
 | c::r,A,A',X,ho,h,e=>by
  rw[Ydy,Yl] at ho;rw[zlM] at e;cases hc:zA1 A c with
  | none=>rw[hc] at e;cases e
  | some B=>
   rw[hc] at e;unfold zA1 at hc;rw[zFh] at hc;have hr:(zde (X.sd A.pe).L (c.to (fOf D)))=(zde A.L c).to (fOf D):=by rw[h.lk,zFd zq3]
   have hg:RA D { A with L:={ zde A.L c with inn:=[] } } (zid X A.pe (c.to (fOf D))):=by
    have:=h.link (L:={ zde A.L c with inn:=[] }) rfl;unfold zid;rw[hr];exact this
   have h1:zgV A.pe X (za9 (c.to (fOf D)))=((zde A.L c).inn.map (fOf D)).foldl (zcT A.pe) (zid X A.pe (c.to (fOf D))):=by
    unfold zgV;rw[(zxi ho.1).2.1];dsimp only;rw[hr];rfl
   obtain⟨w1,w2⟩:=zxg hD _ hg hc;have w1:RA D B (((zde A.L c).inn.map (fOf D)).foldl (zcT A.pe) (zid X A.pe (c.to (fOf D)))):=w1
   have w2:B.pe=A.pe:=w2;rw[←h1] at w1;obtain⟨i1,i2⟩:=zq5 hD r ho.2 w1 e;rw[Yq,Yq,Yal];rw[w2] at i1;exact⟨i1,i2.trans w2⟩
theorem RA.receive (hD:DOk D) (h:RA D A X) {cs:List (CtlR AW)} {p:List UInt8} (hp:p=(cs.map (CtlR.to (fOf D))).flatMap zb5) (e:zig A cs=some A'):RA D A' (zdG X A.pe p).1:=by
 unfold zig at e;by_cases ho:cs.all okC=true
 case neg=>rw[if_neg ho] at e;cases e
 rw[if_pos ho] at e;cases hr:zlM cs A with
 | none=>rw[hr] at e;cases e
 | some B=>
  rw[hr] at e
  have hq:∀ q∈(cs.map (CtlR.to (fOf D))).map za9,0<q.length∧q.length≤128:=fun q hq=>by
   obtain⟨x,hx,rfl⟩:=Yj.1 hq;obtain⟨c,hc,rfl⟩:=Yj.1 hx;exact(zxi (Yaz.1 ho c hc)).2.2
  obtain⟨f1,f2⟩:=zqk ((cs.map (CtlR.to (fOf D))).map za9) (X.sd A.pe).D h.inn hq;rw[←zzk cs ho,←hp] at f1 f2
  have hF:RA D A (zmZ X A.pe p):=by
   have e1:(zmZ X A.pe p).sd A.pe={ X.sd A.pe with hunts:=(zbH (X.sd A.pe).D p).hunts,inn:=(zbH (X.sd A.pe).D p).inn }:=zhf ..;exact⟨h.me,h.pe,h.nb,h.set,by rw[e1];exact h.lk,by rw[e1];exact h.rs,by rw[e1];exact f1,h.li,by rw[e1];exact h.out,h.tab,h.tabr,h.next,h.dsk,h.hk,h.cu,h.told,h.ticks⟩
  obtain⟨g1,g2⟩:=zq5 hD cs ho hF hr;unfold zdG;rw[if_neg (by rw[h.cu.live];decide),if_pos (by rw[h.nb];simp)];show RA D A' (zc1 (zfg X A.pe p))
  have e2:zfg X A.pe p=((cs.map (CtlR.to (fOf D))).map za9).foldl (zgV A.pe) (zmZ X A.pe p):=by
   unfold zfg;rw[f2];show (List.append [] _).foldl _ _=_
   rfl
  rw[e2];exact g1.works hD e
theorem RA.take (h:RA D A X):RA D (zxa A) (zgU X A.pe):=by
 have e1:(zgU X A.pe).sd A.pe={ X.sd A.pe with out:=[] }:=zhf ..;refine⟨h.me,h.pe,h.nb,h.set,?_,?_,?_,h.li,?_,h.tab,h.tabr,h.next,h.dsk,h.hk,h.cu,h.told,h.ticks⟩
 ·show ((zgU X A.pe).sd A.pe).L=_;rw[e1];exact h.lk
 ·show ((zgU X A.pe).sd A.pe).resets=_;rw[e1];exact h.rs
 ·show ((zgU X A.pe).sd A.pe).inn=_;rw[e1];exact h.inn
 ·show ((zgU X A.pe).sd A.pe).out=_;rw[e1];rfl
end
section
variable {D:Int→Int→List UInt8} {A A':AN} {X:NodX}
theorem zzl {w:AW} (e:zfD A w=some A'):A'.pe=A.pe:=by
 unfold zfD at e;split at e
 ·cases e;rfl
 ·cases e
theorem zxj:∀ (l:List (Int×Int)) {A A':AN},zkc l A=some A'→A'.pe=A.pe
 | [],A,A',e=>by cases e;rfl
 | q::r,A,A',e=>by
  rw[zkc] at e;cases hp:zfD A (.off A.me q.1 q.2) with
  | none=>rw[hp] at e;cases e
  | some B=>rw[hp] at e;exact(zxj r e).trans (zzl hp)
theorem zm3 (e:zhP A=some A'):A'.pe=A.pe:=by
 have h0:(zhO A).pe=A.pe:=by unfold zhO;split<;>rfl
 unfold zhP at e;cases ho:zgF (zhO A) with
 | none=>rw[ho] at e;cases e
 | some B=>
  rw[ho] at e;cases e;show B.pe=A.pe
  rw[←h0];unfold zgF at ho;split at ho
  ·exact(zxj _ ho).trans rfl
  ·cases ho;rfl
theorem zzm (e:zo2 A=some A'):A'.pe=A.pe:=by
 unfold zo2 at e;split at e
 case isFalse=>cases e
 split at e
 ·cases hp:zfD (zkd A) (.vec A.me) with
  | none=>rw[hp] at e;cases e
  | some B=>rw[hp] at e;exact(zm3 e).trans ((zzl hp).trans rfl)
 ·exact(zm3 e).trans rfl
theorem RA.receive_pe (hD:DOk D) (h:RA D A X) {cs:List (CtlR AW)} (e:zig A cs=some A'):A'.pe=A.pe:=by
 unfold zig at e;by_cases ho:cs.all okC=true
 case neg=>rw[if_neg ho] at e;cases e
 rw[if_pos ho] at e;cases hr:zlM cs A with
 | none=>rw[hr] at e;cases e
 | some B=>rw[hr] at e;exact(zm3 e).trans (zq5 hD cs ho h hr).2
structure RA2 (D:Int→Int→List UInt8) (w:A2) (W:W2):Prop where
 a:RA D w.a W.a
 b:RA D w.b W.b
 m:w.a.pe=1∧w.b.pe=0
 ra:zkM w.a=true
 rb:zkM w.b=true
theorem ziM {a b:Option AN} {w:A2} (e:zhQ a b=some w):a=some w.a∧b=some w.b∧zkM w.a=true∧zkM w.b=true:=by
 unfold zhQ at e;split at e
 ·split at e
  ·rename_i h;cases e;rw[Yl] at h;exact⟨rfl,rfl,h.1,h.2⟩
  ·cases e
 ·cases e
theorem RA2.fit {w:A2} {W:W2} (h:RA2 D w W):Fit W:=by
 have hr:∀ {A:AN} {X:NodX},RA D A X→zkM A=true→zmX X 65536:=fun {A X} hA hr j hj=>by
  rw[hA.nb] at hj;rw[Y0.1 hj];unfold zkM at hr;rw[Yl] at hr;have h1:A.L.out=[]:=List.isEmpty_iff.1 hr.1
  have h2:A.so.length≤200:=Zd0 hr.2;refine⟨by rw[hA.lk];show A.L.out.map _=[];rw[h1];rfl,by rw[hA.lk];show A.L.inn.map _=[];rw[hA.li];rfl,?_⟩;rw[hA.out];have:=zHc (A.so.map (CtlR.to (fOf D)))
  rw[Y9] at this;omega
 have hg:∀ {A:AN} {X:NodX},RA D A X→X.told.length≤1000000:=fun {A X} hA=>by
  rw[hA.told];have:=hA.cu.rg
  simp;omega
 refine⟨by rw[h.a.nb,h.m.1];simp,by rw[h.b.nb,h.m.2];simp,hr h.a h.ra,hr h.b h.rb,hg h.a,hg h.b,by rw[h.a.set];decide,by rw[h.b.set];decide⟩
theorem RA2.tick (hD:DOk D) {w w':A2} {W:W2} (h:RA2 D w W) (e:zxb w=some w'):RA2 D w' (zhN W):=by
 obtain⟨e1,e2,e3,e4⟩:=ziM e;exact⟨h.a.tik hD e1,h.b.tik hD e2,by rw[zzm e1,zzm e2];exact h.m,e3,e4⟩
theorem RA2.cross (hD:DOk D) {w w':A2} {W:W2} (h:RA2 D w W) (e:zke w=some w'):RA2 D w' (zeX W):=by
 obtain⟨e1,e2,e3,e4⟩:=ziM e;have ta:=h.a.take
 have tb:=h.b.take;have p1:(zxa w.a).pe=1:=h.m.1
 have p2:(zxa w.b).pe=0:=h.m.2;have oa:=h.a.out
 have ob:=h.b.out;have ga:=ta.receive hD ob e1
 have gb:=tb.receive hD oa e2;rw[p1] at ga;rw[p2] at gb;rw[h.m.1] at ta ga gb;rw[h.m.2] at tb ga gb;exact⟨ga,gb,by rw[h.a.take.receive_pe hD e1,h.b.take.receive_pe hD e2];exact h.m,e3,e4⟩
theorem RA2.run (hD:DOk D):∀ (n:Nat) {w w':A2} {W:W2},RA2 D w W→ztr n w=some w'→RA2 D w' (zfx n W)∧zq0 n W
 | 0,w,w',W,h,e=>by cases e;exact⟨h,h.fit⟩
 | n+1,w,w',W,h,e=>by
  rw[ztr] at e;unfold zDr at e;cases h1:zxb w with
  | none=>rw[h1] at e;cases e
  | some w1=>
   rw[h1] at e;have g1:=h.tick hD h1
   cases h2:zke w1 with
   | none=>simp only[Ybf,h2] at e;cases e
   | some w2=>
    simp only[Ybf,h2] at e;have g2:=g1.cross hD h2
    cases h3:zke w2 with
    | none=>rw[h3] at e;cases e
    | some w3=>
     rw[h3] at e;simp only[Ybf] at e;have g3:=g2.cross hD h3
     cases h4:zke w3 with
     | none=>rw[h4] at e;cases e
     | some w4=>
      rw[h4] at e;have g4:=g3.cross hD h4
      obtain⟨i1,i2⟩:=RA2.run hD n g4 e;exact⟨i1,h.fit,g1.fit,g2.fit,g3.fit,i2⟩
end
section
variable {D:Int→Int→List UInt8} {A A':AN} {X:NodX}
theorem zxk:∀ (l:List (Int×Option (Int×Int))) (n:Int),(l.all fun h=>h.2.isSome)=true→zbo l n=(l,n,[])
 | [],n,_=>rfl
 | (c,none)::r,n,h=>by cases h
 | (c,some k)::r,n,h=>by
  rw[Ydy,Yl] at h;rw[zbo,zxk r n h.2]
theorem zuX (hs:zfZ A=true):zhP A=some A:=by
 unfold zfZ at hs;rw[Yl,Yl] at hs;obtain⟨⟨h1,h2⟩,h3⟩:=hs;have h1:A.L.out=[]:=List.isEmpty_iff.1 h1
 have h2:A.L.resets=A.rs:=Zd0 h2;have e1:zhO A=A:=by unfold zhO;rw[if_neg (fun h=>h h2)]
 have e2:zgF A=some A:=by
  unfold zgF;split
  ·rw[zxk _ _ h3];rfl
  ·rfl
 unfold zhP;rw[e1,e2];show some (zlL A)=some A
 congr 1;obtain⟨me,pe,L,rs,so,tab,next,held,last,got,ticks⟩:=A;obtain⟨l1,l2,l3,l4,l5,l6,l7,l8,l9,l10,l11,l12,l13,out,l15⟩:=L;dsimp only at h1;subst h1;unfold zlL;simp
theorem zA4 {C:CuR} {d:Int} {p:List UInt8} (h:(zbm C d p).2.2=0):1≤p.length∧p.length≤48:=by
 unfold zbm at h;split at h
 ·exact absurd h (show ¬(7:Int)=0 by decide)
 split at h
 ·rename_i g;exact absurd h g
 split at h
 ·rename_i g;exact absurd h g
 rename_i hf hfr hp;have hp:(zad C 2 (zaW C.X.S d).1 p true).2=0:=Classical.not_not.1 hp
 unfold zad at hp;rw[if_neg hf] at hp;split at hp
 ·rename_i g;exact absurd hp g
 rename_i hm;have hm:=ziH (Classical.not_not.1 hm)
 have hf:msgErr (zaW C.X.S d).1.o (zaW C.X.S d).1.d (zaW C.X.S d).1.e (zaW C.X.S d).1.c p.length=0:=hm;unfold msgErr at hf;split at hf
 ·rename_i g;exact absurd hf g
 split at hf
 ·exact absurd hf oD
 split at hf
 ·exact absurd hf oD
 ·omega
theorem zxl (pe:Int) (x:Int):∀ (l:List (Int×Option (Int×Int))) (c:Int),zeY pe (l++[(x,none)]) c=zeY pe l c
 | [],c=>by rw[Yaa,zcL];split<;>rfl
 | h::r,c=>by rw[Yby,zcL,zcL,zxl pe x r c]
theorem RA.sub (hD:DOk D) (h:RA D A X) (hs:zfZ A=true) (hl:A.last+1≤20) {A1:AN} (e:zgj A=some A1) (p:List UInt8) (hp:(zbd X A.pe p).2.2=0→D A.me (A.last+1)=p) :
  ((zbd X A.pe p).2.2≠0∧RA D A (zbd X A.pe p).1)∨((zbd X A.pe p).2.2=0∧RA D A1 (zbd X A.pe p).1):=by
 have hs0:zbd X A.pe p=(zc1 { X with C:=(zbm X.C A.pe p).1 },(zbm X.C A.pe p).2):=by
  unfold zbd;rw[if_neg (by rw[h.cu.live];decide)]
 rw[hs0] at hp ⊢;dsimp only at hp ⊢;have hc:=h.cu.submit hl p (by rw[←h.pe];exact hp)
 rw[←h.pe] at hc;rcases hc with ⟨c1,c2⟩|⟨c1,_,c2⟩
 ·refine .inl ⟨c1,?_⟩;rw[c2];exact h.works hD (zuX hs)
 ·refine .inr ⟨c1,?_⟩
  have hX:RA D { A with held:=A.held++[(A.last+1,none)],last:=A.last+1 } { X with C:=(zbm X.C A.pe p).1 }:=by
   refine⟨h.me,h.pe,h.nb,h.set,h.lk,h.rs,h.inn,h.li,h.out,h.tab,h.tabr,h.next,fun c=>?_,fun x hx k hk=>?_,?_,h.told,h.ticks⟩
   ·show X.dsk (idO A.me c)=zeY A.pe (A.held++[(A.last+1,none)]) c;rw[zxl];exact h.dsk c
   ·rcases Yy.1 hx with hx|hx
    ·exact h.hk x hx k hk
    ·rw[Y0.1 hx] at hk;cases hk
   ·show RC D A.me ((A.held++[(A.last+1,(none:Option (Int×Int)))]).map fun x=>x.1) (A.last+1) A.got _;rw[Yv];exact c2
  exact hX.works hD e
def zc8 (k:Int) (s:NodX×List (List UInt8)) (p:List UInt8):NodX×List (List UInt8):=((zbd s.1 k p).1,if (zbd s.1 k p).2.2=0 then s.2++[p] else s.2)
theorem zxm (k:Int):∀ (l:List (List UInt8)) (s:NodX×List (List UInt8)),s.2 <+: (l.foldl (zc8 k) s).2
 | [],s=>List.prefix_refl _
 | p::r,s=>by
  rw[Yal];refine List.IsPrefix.trans ?_ (zxm k r _);unfold zc8;dsimp only;split
  ·exact List.prefix_append _ _
  ·exact List.prefix_refl _
theorem zq6 (k:Int):∀ (l:List (List UInt8)) (s:NodX×List (List UInt8)),(∀ p∈s.2,1≤p.length∧p.length≤48)→∀ p∈(l.foldl (zc8 k) s).2,1≤p.length∧p.length≤48
 | [],s,h=>h
 | q::r,s,h=>by
  rw[Yal];refine zq6 k r _ fun p hp=>?_
  unfold zc8 at hp;dsimp only at hp;split at hp
  ·rename_i hz;rcases Yy.1 hp with hp|hp
   ·exact h p hp
   ·rw[Y0.1 hp];unfold zbd at hz;split at hz
    ·exact absurd hz (show ¬(9:Int)=0 by decide)
    ·exact zA4 hz
  ·exact h p hp
structure zA5 (G:Nat→AN) (pe:Int):Prop where
 pe:∀ n,n≤20→(G n).pe=pe
 st:∀ n,n≤20→zfZ (G n)=true
 go:∀ n,n<20→zgj (G n)=some (G (n+1))
 last:∀ n,n≤20→(G n).last=n
theorem zuB (hD:DOk D) {G:Nat→AN} {pe:Int} (hF:zA5 G pe):∀ (l:List (List UInt8)) (s:NodX×List (List UInt8)),RA D (G s.2.length) s.1→s.2.length+l.length≤20→(∀ (i:Nat) p,(l.foldl (zc8 pe) s).2[i]? = some p→D (1 - pe) (i+1)=p) →
  RA D (G (l.foldl (zc8 pe) s).2.length) (l.foldl (zc8 pe) s).1∧(l.foldl (zc8 pe) s).2.length≤s.2.length+l.length
 | [],s,h,_,_=>⟨h,Yd _⟩
 | p::r,s,h,hn,hd=>by
  rw[Ym] at hn;rw[Yal] at hd ⊢;have hpe:=hF.pe s.2.length oM
  have hlast:=hF.last s.2.length oM;have hpre:=zxm pe r (zc8 pe s p)
  have hsub:=h.sub hD (hF.st _ oM) (by rw[hlast];omega) (hF.go _ oM) p (fun hz=>by
   rw[hpe] at hz;have e2:(zc8 pe s p).2=s.2++[p]:=by unfold zc8;dsimp only;rw[if_pos hz]
   rw[e2] at hpre
   have:=hd s.2.length p (by
    obtain⟨t,ht⟩:=hpre;rw[←ht,Yr,Yan (Yd _)]
    simp)
   rw[hlast,show (G s.2.length).me=1 - pe by have:=h.pe;omega]
   exact this)
  rw[hpe] at hsub
  have key:RA D (G (zc8 pe s p).2.length) (zc8 pe s p).1∧(zc8 pe s p).2.length≤s.2.length+1:=by
   rcases hsub with ⟨a1,a2⟩|⟨a1,a2⟩
   ·have e2:(zc8 pe s p).2=s.2:=by unfold zc8;dsimp only;rw[if_neg a1]
    rw[e2];exact⟨a2,Yc3 _⟩
   ·have e2:(zc8 pe s p).2=s.2++[p]:=by unfold zc8;dsimp only;rw[if_pos a1]
    rw[e2,Yi,Ybv];exact⟨a2,Yd _⟩
  obtain⟨i1,i2⟩:=zuB hD hF r (zc8 pe s p) key.1 oM hd;exact⟨i1,by rw[Ym];omega⟩
def zjy (W:W2):Nat:=W.a.C.X.S.l.length+W.b.C.X.S.l.length
def ziv:Nat→W2→W2
 | 0,W=>W
 | n+1,W=>if zjy W=0 then W else ziv n (zfx 6 W)
def SnW (W:W2):Prop:=(W.a.C.X.sn.length≤1∧W.a.C.X.S.l.length≤100)∧W.b.C.X.sn.length≤1∧W.b.C.X.S.l.length≤100
def DoneF:Nat→W2→Prop
 | 0,W=>SnW W
 | n+1,W=>SnW W∧(zjy W=0∨(zq0 6 W∧DoneF n (zfx 6 W)))
theorem RA2.sn {w:A2} {W:W2} (h:RA2 D w W):SnW W:=by
 have e:∀ {A:AN} {X:NodX},RA D A X→X.C.X.sn.length≤1∧X.C.X.S.l.length≤100:=fun {A X} hA=>by
  obtain⟨evs,s,_,hc⟩:=hA.cu.st;have hrg:=hA.cu.rg
  rw[hA.cu.X];show (snO _ _).length≤1∧((A.held.map (·.1)).map _).length≤100
  refine⟨by unfold snO;split<;>simp,?_⟩;rw[Y9];omega
 exact⟨e h.a,e h.b⟩
theorem RA2.held {w:A2} {W:W2} (h:RA2 D w W):zjy W=zsu w:=by
 have e:∀ {A:AN} {X:NodX},RA D A X→X.C.X.S.l.length=A.held.length:=fun {A X} hA=>by
  have:=congrArg List.length hA.l
  rwa [Y9,Y9] at this
 unfold zjy zsu;rw[e h.a,e h.b]
theorem RA2.done (hD:DOk D):∀ (n:Nat) {w w':A2} {W:W2},RA2 D w W→zsv n w=some w'→RA2 D w' (ziv n W)∧DoneF n W
 | 0,w,w',W,h,e=>by cases e;exact⟨h,h.sn⟩
 | n+1,w,w',W,h,e=>by
  rw[zsv] at e;rw[ziv,DoneF,h.held];by_cases h0:zsu w=0
  ·rw[if_pos h0] at e ⊢;cases e;exact⟨h,h.sn,.inl h0⟩
  ·rw[if_neg h0] at e ⊢;cases hr:ztr 6 w with
   | none=>rw[hr] at e;cases e
   | some w1=>
    rw[hr] at e;obtain⟨g1,g2⟩:=h.run hD 6 hr;obtain⟨i1,i2⟩:=RA2.done hD n g1 e;exact⟨i1,h.sn,.inr ⟨g2,i2⟩⟩
end
end Go.Proofs.YtlgbofpennelhaaGreat
namespace Go.Proofs.YtlgbofpennelhaaGreat
open Go Go.Vm
set_option maxRecDepth 100000
theorem zFj:((List.range 21).all zA3)=true:=by decide +kernel
theorem row0:((List.range 21).all (zdH 0))=true:=by decide +kernel
theorem zK5:((List.range 21).all (zdH 1))=true:=by decide +kernel
theorem zK6:((List.range 21).all (zdH 2))=true:=by decide +kernel
theorem zK7:((List.range 21).all (zdH 3))=true:=by decide +kernel
theorem zK8:((List.range 21).all (zdH 4))=true:=by decide +kernel
theorem zK9:((List.range 21).all (zdH 5))=true:=by decide +kernel
theorem zLa:((List.range 21).all (zdH 6))=true:=by decide +kernel
theorem zLb:((List.range 21).all (zdH 7))=true:=by decide +kernel
theorem zLc:((List.range 21).all (zdH 8))=true:=by decide +kernel
theorem zLd:((List.range 21).all (zdH 9))=true:=by decide +kernel
theorem zKa:((List.range 21).all (zdH 10))=true:=by decide +kernel
theorem zKb:((List.range 21).all (zdH 11))=true:=by decide +kernel
theorem zKc:((List.range 21).all (zdH 12))=true:=by decide +kernel
theorem zKd:((List.range 21).all (zdH 13))=true:=by decide +kernel
theorem zKe:((List.range 21).all (zdH 14))=true:=by decide +kernel
theorem zKf:((List.range 21).all (zdH 15))=true:=by decide +kernel
theorem zKg:((List.range 21).all (zdH 16))=true:=by decide +kernel
theorem zKh:((List.range 21).all (zdH 17))=true:=by decide +kernel
theorem zKi:((List.range 21).all (zdH 18))=true:=by decide +kernel
theorem zKj:((List.range 21).all (zdH 19))=true:=by decide +kernel
theorem zKk:((List.range 21).all (zdH 20))=true:=by decide +kernel
theorem zJi:∀ k:Nat,k≤20→((List.range 21).all (zdH k))=true
 | 0,_=>row0
 | 1,_=>zK5
 | 2,_=>zK6
 | 3,_=>zK7
 | 4,_=>zK8
 | 5,_=>zK9
 | 6,_=>zLa
 | 7,_=>zLb
 | 8,_=>zLc
 | 9,_=>zLd
 | 10,_=>zKa
 | 11,_=>zKb
 | 12,_=>zKc
 | 13,_=>zKd
 | 14,_=>zKe
 | 15,_=>zKf
 | 16,_=>zKg
 | 17,_=>zKh
 | 18,_=>zKi
 | 19,_=>zKj
 | 20,_=>zKk
 | n+21,h=>by omega
theorem zxn {ka kb:Nat} (ha:ka≤20) (hb:kb≤20):zdH ka kb=true:=Yaz.1 (zJi ka ha) kb (Ydv.2 (by omega))
theorem zzn {k:Nat} (h:k≤20):zA3 k=true:=Yaz.1 zFj k (Ydv.2 (by omega))
end Go.Proofs.YtlgbofpennelhaaGreat
namespace Go.Proofs.YtlgbofpennelhaaGreat
open Go Go.Vm
variable {D:Int→Int→List UInt8}
theorem ra0 (hD:DOk D) {me pe:Int} (hm:me=0∨me=1) (hp:pe=1 - me) (hf:zgi (za1 D00 me 50 2000 50 200 none).1=512) :
  RA D (an0 me pe) (zc1 (zm0 me zie [pe] (za1 D00 me 50 2000 50 200 none).1)):=by
 have h:RA D ⟨me,pe,zv2 512 4 3 3,0,[],0,0,[],0,0,0⟩ (zm0 me zie [pe] (za1 D00 me 50 2000 50 200 none).1):=by
  refine⟨rfl,hp,rfl,rfl,?_,rfl,rfl,rfl,rfl,rfl,by show (0:Int)≤0∧(0:Int)≤64;omega,⟨rfl,by show (0:Int)≤0;omega,by show (0:Int)≤65535;omega⟩,fun _=>rfl,by simp,rc0 hm,rfl,⟨rfl,by show (0:Int)≤0;omega,by show (0:Int)≤1000;omega⟩⟩;show zv2 (zgi _) 4 3 3=_
  rw[hf];rfl
 exact h.works hD rfl
theorem zLe (hD:DOk D):RA2 D ⟨an0 0 1,an0 1 0⟩ w00:=⟨ra0 hD (.inl rfl) rfl zK0,ra0 hD (.inr rfl) rfl zK1,⟨rfl,rfl⟩,rfl,rfl⟩
theorem zJj:∃ w,begA=some w:=by
 have h:=zzn (k:=0) oD;unfold zA3 at h;cases e:begA with
 | none=>rw[e] at h;cases h
 | some w=>exact⟨w,rfl⟩
theorem zhT:∀ (n:Nat) (X:AN),zco (n+1) X=(zco n X).bind zgj
 | 0,X=>by
  rw[zco,zco];show _=zgj X
  cases zgj X<;>rfl
 | n+1,X=>by
  show (zgj X).bind (zco (n+1))=_;rw[zco];cases zgj X with
  | none=>rfl
  | some Y=>exact zhT n Y
def ziY (w:A2) (n:Nat):AN:=(zco n w.a).getD w.a
def ziZ (w:A2) (n:Nat):AN:=(zco n w.b).getD w.b
theorem zdC {w:A2} (hw:begA=some w) {k:Nat} (hk:k≤20):(zco k w.a=some (ziY w k)∧zfZ (ziY w k)=true∧(ziY w k).last=k)∧zco k w.b=some (ziZ w k)∧zfZ (ziZ w k)=true∧(ziZ w k).last=k:=by
 have h:=zzn hk;unfold zA3 at h;rw[hw] at h;have e0:(some w).bind (zsw k k)=zhQ (zco k w.a) (zco k w.b):=rfl
 rw[e0] at h;cases e:zhQ (zco k w.a) (zco k w.b) with
 | none=>rw[e] at h;cases h
 | some v=>
  rw[e] at h;obtain⟨e1,e2,_,_⟩:=ziM e;have ea:ziY w k=v.a:=by unfold ziY;rw[e1];rfl
  have eb:ziZ w k=v.b:=by unfold ziZ;rw[e2];rfl
  simp only[Yl,decide_eq_true_eq] at h;rw[ea,eb];exact⟨⟨e1,h.1.1.1,h.1.2⟩,e2,h.1.1.2,h.2⟩
theorem zuC {A B:AN} (e:zgj A=some B):B.pe=A.pe:=(zm3 e).trans rfl
theorem zxo {w:A2} (hw:begA=some w) (hp:w.a.pe=1):zA5 (ziY w) 1 where
 pe:=fun n hn=>by
  induction n with
  | zero=>have:=(zdC hw (k:=0) oM).1.1;cases this;exact hp
  | succ n ih=>
   have h1:=(zdC hw (k:=n) oM).1.1;have h2:=(zdC hw hn).1.1
   rw[zhT,h1] at h2;exact(zuC h2).trans (ih oM)
 st:=fun n hn=>(zdC hw hn).1.2.1
 go:=fun n hn=>by
  have h1:=(zdC hw (k:=n) oM).1.1;have h2:=(zdC hw (k:=n+1) oM).1.1
  rw[zhT,h1] at h2;exact h2
 last:=fun n hn=>(zdC hw hn).1.2.2
theorem zxp {w:A2} (hw:begA=some w) (hp:w.b.pe=0):zA5 (ziZ w) 0 where
 pe:=fun n hn=>by
  induction n with
  | zero=>have:=(zdC hw (k:=0) oM).2.1;cases this;exact hp
  | succ n ih=>
   have h1:=(zdC hw (k:=n) oM).2.1;have h2:=(zdC hw hn).2.1
   rw[zhT,h1] at h2;exact(zuC h2).trans (ih oM)
 st:=fun n hn=>(zdC hw hn).2.2.1
 go:=fun n hn=>by
  have h1:=(zdC hw (k:=n) oM).2.1;have h2:=(zdC hw (k:=n+1) oM).2.1
  rw[zhT,h1] at h2;exact h2
 last:=fun n hn=>(zdC hw hn).2.2.2
def zf1 (there here:List (List UInt8)) (o c:Int):List UInt8:=(if o=0 then there else here).getD (c - 1).toNat [0]
theorem zHy {there here:List (List UInt8)} (h1:∀ p∈there,1≤p.length∧p.length≤48) (h2:∀ p∈here,1≤p.length∧p.length≤48):DOk (zf1 there here):=fun o c=>by
 have key:∀ l:List (List UInt8),(∀ p∈l,1≤p.length∧p.length≤48)→1≤(l.getD (c - 1).toNat [0]).length∧(l.getD (c - 1).toNat [0]).length≤48:=fun l hl=>by
  rw[Ys];cases e:l[(c - 1).toNat]? with
  | none=>exact⟨by decide,by decide⟩
  | some p=>exact hl p (Yao e)
 unfold zf1;split
 ·exact key _ h1
 ·exact key _ h2
theorem zsx (hD:DOk D) {G:Nat→AN} {pe:Int} (hG:zA5 G pe) (l:List (List UInt8)) {X:NodX} (h:RA D (G 0) X) (hn:l.length≤20) (hd:∀ (i:Nat) p,(l.foldl (zc8 pe) (X,[])).2[i]? = some p→D (1 - pe) (i+1)=p) :
  RA D (G (l.foldl (zc8 pe) (X,[])).2.length) (l.foldl (zc8 pe) (X,[])).1∧(l.foldl (zc8 pe) (X,[])).2.length≤20:=by
 obtain⟨h1,h2⟩:=zuB hD hG l (X,[]) h (by simpa using hn) hd;exact⟨h1,by simp at h2;omega⟩
def W6:W2:=zfx 6 w00
def zbJ (l back:List (List UInt8)):W2:=⟨(l.foldl (zc8 1) (W6.a,[])).1,(back.foldl (zc8 0) (W6.b,[])).1⟩
def zcb (l:List (List UInt8)):List (List UInt8):=(l.foldl (zc8 1) (W6.a,[])).2
def zcc (back:List (List UInt8)):List (List UInt8):=(back.foldl (zc8 0) (W6.b,[])).2
theorem zq7 {l back:List (List UInt8)} (hl:l.length≤20) (hb:back.length≤20) :
  DOk (zf1 (zcb l) (zcc back))∧zq0 6 w00∧∃ w,begA=some w∧RA (zf1 (zcb l) (zcc back)) (ziY w (zcb l).length) (zbJ l back).a∧RA (zf1 (zcb l) (zcc back)) (ziZ w (zcc back).length) (zbJ l back).b∧(zcb l).length≤20∧(zcc back).length≤20∧w.a.pe=1∧w.b.pe=0:=by
 have hD:DOk (zf1 (zcb l) (zcc back)):=zHy (zq6 1 l _ oS) (zq6 0 back _ oS);obtain⟨w,hw⟩:=zJj;obtain⟨h6,hf⟩:=(zLe hD).run hD 6 hw;have h6:RA2 (zf1 (zcb l) (zcc back)) w W6:=h6
 obtain⟨Ga,hGa⟩:=oI (ziY w);obtain⟨Gb,hGb⟩:=oI (ziZ w);obtain⟨h6a,h6b⟩:RA (zf1 (zcb l) (zcc back)) (Ga 0) W6.a∧RA (zf1 (zcb l) (zcc back)) (Gb 0) W6.b:=by rw[hGa,hGb];exact⟨h6.a,h6.b⟩
 have sa:=zxo hw h6.m.1;have sb:=zxp hw h6.m.2
 rw[←hGa] at sa;rw[←hGb] at sb
 have ha:=zsx hD sa l h6a hl (fun i p hp=>by
  show zf1 (zcb l) (zcc back) 0 (i+1)=p;unfold zf1;rw[if_pos rfl,show ((i:Int)+1 - 1).toNat=i by omega,Ys]
  rw[show (zcb l)[i]? = some p from hp];rfl)
 have hb:=zsx hD sb back h6b hb (fun i p hp=>by
  show zf1 (zcb l) (zcc back) 1 (i+1)=p;unfold zf1;rw[if_neg oD,show ((i:Int)+1 - 1).toNat=i by omega,Ys]
  rw[show (zcc back)[i]? = some p from hp];rfl)
 have la:(zcb l).length≤20:=ha.2;have lb:(zcc back).length≤20:=hb.2
 rw[hGa] at ha;rw[hGb] at hb;exact⟨hD,hf,w,hw,ha.1,hb.1,la,lb,h6.m⟩
theorem zuD {l back:List (List UInt8)} (hl:l.length≤20) (hb:back.length≤20):Fit (zbJ l back):=by
 obtain⟨hD,_,w,hw,ha,hb',la,lb,pa,pb⟩:=zq7 hl hb;have hA:=zxn la lb
 unfold zdH at hA;rw[hw] at hA;have e0:(some w).bind (zsw (zcb l).length (zcc back).length)=zhQ (zco (zcb l).length w.a) (zco (zcc back).length w.b):=rfl
 rw[e0] at hA;cases e:zhQ (zco (zcb l).length w.a) (zco (zcc back).length w.b) with
 | none=>rw[e] at hA;cases hA
 | some v=>
  obtain⟨e1,e2,r1,r2⟩:=ziM e;have ea:ziY w (zcb l).length=v.a:=by unfold ziY;rw[e1];rfl
  have eb:ziZ w (zcc back).length=v.b:=by unfold ziZ;rw[e2];rfl
  rw[ea] at ha;rw[eb] at hb';exact(RA2.mk (w:=v) (W:=zbJ l back) ha hb' ⟨by rw[←ea];exact(zxo hw pa).pe _ la,by rw[←eb];exact(zxp hw pb).pe _ lb⟩ r1 r2).fit
theorem zKl {l back:List (List UInt8)} (hl:l.length≤20) (hb:back.length≤20) :
  DoneF 10 (zbJ l back)∧zjy (ziv 10 (zbJ l back))=0 ∧
  (ziv 10 (zbJ l back)).b.told=(List.range (zcb l).length).map (fun i:Nat=>(⟨⟨0,1,1,i+1⟩,(zcb l).getD i [0]⟩:zcO)) ∧
  (ziv 10 (zbJ l back)).a.told=(List.range (zcc back).length).map (fun i:Nat=>(⟨⟨1,0,1,i+1⟩,(zcc back).getD i [0]⟩:zcO)):=by
 obtain⟨hD,_,w,hw,ha,hb',la,lb,pa,pb⟩:=zq7 hl hb;have hA:=zxn la lb
 unfold zdH at hA;rw[hw] at hA;have e0:(some w).bind (zsw (zcb l).length (zcc back).length)=zhQ (zco (zcb l).length w.a) (zco (zcc back).length w.b):=rfl
 rw[e0] at hA;cases e:zhQ (zco (zcb l).length w.a) (zco (zcc back).length w.b) with
 | none=>rw[e] at hA;cases hA
 | some v=>
  rw[e] at hA;obtain⟨e1,e2,r1,r2⟩:=ziM e;have ea:ziY w (zcb l).length=v.a:=by unfold ziY;rw[e1];rfl
  have eb:ziZ w (zcc back).length=v.b:=by unfold ziZ;rw[e2];rfl
  rw[ea] at ha;rw[eb] at hb';have hR:=RA2.mk (w:=v) (W:=zbJ l back) ha hb' ⟨by rw[←ea];exact(zxo hw pa).pe _ la,by rw[←eb];exact(zxp hw pb).pe _ lb⟩ r1 r2
  cases ed:zsv 10 v with
  | none=>rw[Ybf,ed] at hA;cases hA
  | some u=>
   rw[Ybf,ed] at hA;obtain⟨d1,d2⟩:=hR.done hD 10 ed;have hA:zA2 (zcb l).length (zcc back).length u=true:=hA
   unfold zA2 at hA;simp only[Yl,decide_eq_true_eq] at hA;obtain⟨⟨g1,g2⟩,g3⟩:=hA;refine⟨d2,by rw[d1.held];exact g1,?_,?_⟩
   ·rw[d1.b.told,g3,d1.m.2];refine Yav fun i _=>?_
    show (⟨idO 0 (i+1),zf1 (zcb l) (zcc back) 0 (i+1)⟩:zcO)=_;unfold zf1;rw[if_pos rfl,show ((i:Int)+1 - 1).toNat=i by omega];rfl
   ·rw[d1.a.told,g2,d1.m.1];refine Yav fun i _=>?_
    show (⟨idO 1 (i+1),zf1 (zcb l) (zcc back) 1 (i+1)⟩:zcO)=_;unfold zf1;rw[if_neg oD,show ((i:Int)+1 - 1).toNat=i by omega];rfl
end Go.Proofs.YtlgbofpennelhaaGreat
namespace Go.Proofs.YtlgbofpennelhaaGreat
open Go Go.Vm
attribute [local irreducible] Brn Ob Grow CallsM inR zI zF Mem.row Mem.cells Mem.setCells Mem.upd Go.Vm.Own zZ zaj zam zO New SrcOk subA NewSl Mem.textAt Mem.mapAt Mem.iterAt zC zB Wr NewEls Elems zc9 zeK zfF zef zeg
set_option maxRecDepth 10000
section
variable {B0 M0 B M B' M':Mem} {S0:Nat→Prop} {R:List Pt} {ps:List Pt}
theorem zzo {x0 x1:Int} {a:Option Addr} {c:Nat} {ms:List zcO} (hm:Elems M 5 a ms.length (MsgR M) ms) {b:Option Addr} {cb:Nat} {vs:List Value} {ws:List (List UInt8)} (hs:SrcOk M 1 b vs.length vs) (hw:Brows M vs ws) (hn:vs.length≤1000)
  (e:ms=(List.range ws.length).map fun i:Nat=>(⟨⟨x0,x1,1,i+1⟩,ws.getD i [0]⟩:zcO)):CallsM Tryz.prog 12 [.slice a ms.length c,.slice b vs.length cb] M fun v M'=>v = .bool true∧M.le M':=by
 have hl:ms.length=vs.length:=by rw[e,hw.1];simp
 refine zuF oS ?_;refine zR ?_;refine brn_f (by simp[hl]) ?_;refine zR ?_;refine zem (σ:=Nat) [5] (fun i=>[(5,.int .i64 i)]) (fun i=>i≤ms.length) (fun i=>ms.length - i) 0 (Y5 _) zS ?_;rintro i hi;refine brn (fun g=>?_) (fun g=>?_)
 ·have hlt:i<ms.length:=by have:=Zd0 g;omega
  obtain⟨q1',bt,ot,cs,rfl,hrows,hrow,hcs,pt,nt,kt,rfl,hpt,hnt⟩:=hm.at (i:=i) oD hlt;have hlw:i<vs.length:=by omega
  have hs':SrcOk M 1 b vs.length (vs.map id):=by rwa [Ydh]
  obtain⟨k0,b0,o0,rfl,r0⟩:=hs'.at (i:=i) hlw;have r0:M.row b0 (o0+i*1) 1=some [vs[i]]:=r0
  obtain⟨qw,cw,ev,hsw⟩:=hw.2 i vs[i] ws[i]! (Yb hlw) (by rw[List.getElem!_eq_getElem?_getD,Yb (by rw[←hw.1];exact hlw)];rfl)
  have hms:ms[i]=⟨⟨x0,x1,1,i+1⟩,ws[i]!⟩:=by
   have:ms[i]? = some ⟨⟨x0,x1,1,i+1⟩,ws.getD i [0]⟩:=by rw[e,Ya7,List.getElem?_range (by rw[←hw.1];exact hlw)];rfl
   rw[Yb hlt] at this;rw[Yb2 this];congr 1;rw[Ys,List.getElem!_eq_getElem?_getD,Yb (by rw[←hw.1];exact hlw)];rfl
  rw[hms] at hpt hrows hrow;rw[ev] at r0;refine zV ?_;refine atp rfl ?_;refine zR ?_;refine on (hrows 4 1 oD) ?_;refine zR ?_;refine zsD hpt ?_;refine zP ?_;refine on r0 ?_;refine zR ?_;refine zsD hsw.2 ?_;refine brn_f oS ?_;refine zV ?_;refine atp rfl ?_;refine zR ?_;refine on (hrows 3 1 oD) ?_;refine zV ?_;refine brn_f oS ?_;refine zP ?_;exact⟨i+1,hlt,by omega,zS⟩
 ·refine zR ?_;exact⟨rfl,Ya _⟩
end
section
variable {B0 M0 B M B' M':Mem} {S0:Nat→Prop} {R:List Pt} {ps:List Pt}
theorem zHz (l back:List (List UInt8)) {i:Nat} (h:i<l.length):(zbJ (l.take (i+1)) back).a=(zbd (zbJ (l.take i) back).a 1 l[i]).1∧zcb (l.take (i+1))=if (zbd (zbJ (l.take i) back).a 1 l[i]).2.2=0 then zcb (l.take i)++[l[i]] else zcb (l.take i):=by
 unfold zbJ zcb;dsimp only;rw[List.take_succ_eq_append_getElem h,Ya0];exact⟨rfl,rfl⟩
theorem zHA (l back:List (List UInt8)) {i:Nat} (h:i<back.length):(zbJ l (back.take (i+1))).b=(zbd (zbJ l (back.take i)).b 0 back[i]).1∧zcc (back.take (i+1))=if (zbd (zbJ l (back.take i)).b 0 back[i]).2.2=0 then zcc (back.take i)++[back[i]] else zcc (back.take i):=by
 unfold zbJ zcc;dsimp only;rw[List.take_succ_eq_append_getElem h,Ya0];exact⟨rfl,rfl⟩
theorem DoneF.sn:∀ {n:Nat} {W:W2},DoneF n W→SnW W
 | 0,_,h=>h
 | _+1,_,h=>h.1
set_option maxHeartbeats 4000000 in
theorem zDw {la:Option Addr} {n lc:Nat} {l:List (List UInt8)} (hl:Elems M 1 la n (zE5 M) l) (hn:n≤1048576) {ba:Option Addr} {m bc:Nat} {back:List (List UInt8)} (hb:Elems M 1 ba m (zE5 M) back) (hm:m≤1048576) :
  CallsM Tryz.prog 3 [.slice la n lc,.slice ba m bc] M fun v M'=>v = .bool true∧M.le M':=by
 obtain rfl:l.length=n:=hl.len;obtain rfl:back.length=m:=hb.len;refine znT oS ?_;refine zR ?_;refine plain_ok.mono ?_;rintro v _ ⟨rfl,rfl⟩;refine zR ?_;refine pair_ok.mono ?_;rintro v M1 ⟨B1,P,Q,rfl,⟨p1,p2⟩,⟨q1,q2⟩,hb1,h1⟩;obtain⟨_,hf6,_⟩:=zq7 (l:=[]) (back:=[]) oS oS;have hro:=zoE (R:=[]) (w:=w00) (by rw[Yt];exact h1) (n:=6) hf6 oD oM oM oM oM
 refine zR ?_;refine hro.mono ?_;rintro v M2 ⟨rfl,B2,P2,Q2,hb2,hp2,hq2,h2⟩;rw[show zfx 6 w00=W6 from rfl,Yt] at h2;have a1:=hp2.N
 have a2:=hp2.K;have a3:=hq2.N
 have a4:=hq2.K;refine zR ?_;refine h2.newRV (s:=1) (n:=0) (E:=37) rfl fun r3 M3 h3=>?_
 refine zR ?_;refine h3.newRV (s:=1) (n:=0) (E:=37) rfl fun r4 M4 h4=>?_
 refine zR ?_
 refine zak (σ:=Nat×Mem×Mem×NP×Option Addr×Nat×List Value) [10,8] (fun y=>[(10,.int .i64 (y.1:Nat)),(8,.slice y.2.2.2.2.1 y.2.2.2.2.2.2.length y.2.2.2.2.2.1)]) (fun _=>[.gone r3,.gone r4]) (fun y=>y.2.1)
  (fun|⟨i,Mc,Bc,Pc,ta,tc,vs⟩=>(i≤20∧i≤l.length)∧At M M (fun _=>False) Bc Mc [zbi Pc (zbJ (l.take i) []).a,zbi Q2 W6.b,zaB 37 1 ta vs.length tc vs,zaB 37 1 (some ⟨r4,0,none⟩) 0 0 []]∧Pc.n=P.n∧(Pc.N≤106000000000+i∧Pc.K≤200000000+256*i)∧Brows M vs (zcb (l.take i))∧vs.length≤i) (fun y=>20 - y.1)
  ⟨0,M4,B2,P2,some ⟨r3,0,none⟩,0,[]⟩ ⟨⟨by omega,by omega⟩,h4,hp2.n,⟨by omega,by omega⟩,⟨rfl,fun _ _ _ h=>by simp at h⟩,Yd _⟩ zS ?_
 rintro ⟨i,Mc,Bc,Pc,ta,tc,vs⟩ ⟨⟨i1,i2⟩,hc,n1,⟨k1,k2⟩,hbr,hvl⟩;dsimp only at *;refine brn (fun g1=>?_) (fun g1=>?_)
 focus
  refine brn (fun g2=>?_) (fun g2=>?_)
  focus
   have hlt:i<l.length:=by have:=Zd0 g1;omega
   have h20:i<20:=by have:=Zd0 g2;omega
   obtain⟨q0,bx,ox,cx,ea,hrows,hrow,hcx,pa,pn,pc,rfl,hpa,hpn,hpc⟩:=hl.at (i:=i) oD hlt;obtain⟨x,hx⟩:=oI (l[i]);obtain⟨gv1,gv2⟩:=zHz l [] hlt;rw[←hx] at hpa gv1 gv2;have hpl:=hpa.maplen
   subst hpl;have hMB:M.le Bc:=hc.tn.bb
   have hfit:=zuD (l:=l.take i) (back:=[]) (by rw[Ya2];omega) oS;refine ob oM ?_;refine atp ea ?_;refine zR ?_;refine on (Ycg (Yc hMB hc.le) hrow) ?_;refine zR ?_;have hsub:=zmY (l:=x) (cc:=pc) (zdn hc 0 rfl) oM oM hfit.ra oD 1 (hpa.le hMB) hpn
   rw[n1] at hsub;refine hsub.mono ?_;rintro v M5 ⟨rfl,h5⟩;obtain⟨B5,P5,hb5,hp5,h6⟩:=zm1 hc 0 rfl h5;refine zR ?_;rw[←gv1] at h6;obtain⟨id,hid⟩:=oI ((zbd (zbJ (l.take i) []).a 1 x).2.1);obtain⟨e0,he0⟩:=oI ((zbd (zbJ (l.take i) []).a 1 x).2.2);rw[←hid,←he0];rw[←he0] at gv2;have hp5N:=hp5.N
   have hp5K:=hp5.K;have f1:P5.N≤106000000000+((i+1:Nat):Int):=by push_cast;omega
   have f2:P5.K≤200000000+256*(i+1):=by omega
   refine brn (fun g3=>?_) (fun g3=>?_)
   ·have hz:e0=0:=Zd0 g3;rw[if_pos hz] at gv2;refine ob oM ?_;refine atp ea ?_;refine zR ?_;refine on (Ycg (Yc hMB (Yc hb5 h6.le)) hrow) ?_;refine zR ?_;refine h6.appV 2 rfl oM (by simp[maxLen];omega) oC fun a7 c7 M7 hc7 h7=>?_
    have h7':At M M (fun _=>False) B5 M7 [zbi P5 (zbJ (l.take (i+1)) []).a,zbi Q2 W6.b,zaB 37 1 a7 (vs++[Value.slice pa x.length pc]).length c7 (vs++[Value.slice pa x.length pc]),zaB 37 1 (some ⟨r4,0,none⟩) 0 0 []]:=h7.c (by rw[Yi,Ybv];rfl);have hl7:vs.length+1=(vs++[Value.slice pa x.length pc]).length:=by rw[Yi];rfl
    rw[hl7];refine zP ?_;have f3:Brows M (vs++[Value.slice pa x.length pc]) (zcb (l.take (i+1))):=by rw[gv2];exact hbr.snoc hpc hpa
    have f4:(vs++[Value.slice pa x.length pc]).length≤i+1:=by omega
    exact⟨⟨i+1,M7,B5,P5,a7,c7,vs++[Value.slice pa x.length pc]⟩,⟨⟨by omega,by omega⟩,h7',hp5.n.trans n1,⟨f1,f2⟩,f3,f4⟩,by dsimp only;omega,zS⟩
   ·have hz:¬e0=0:=Zd1 g3;rw[if_neg hz] at gv2;refine zP ?_;have f3:Brows M vs (zcb (l.take (i+1))):=by rw[gv2];exact hbr
    exact⟨⟨i+1,M5,B5,P5,ta,tc,vs⟩,⟨⟨by omega,by omega⟩,h6,hp5.n.trans n1,⟨f1,f2⟩,f3,by dsimp only;omega⟩,by dsimp only;omega,zS⟩
  focus
   have hend:l.take i=l.take 20:=by have:=Zd1 g2;rw[show i=20 by omega]
   refine zR ?_
 rotate_left
 have hend:l.take i=l.take 20:=by
  have:=Zd1 g1;rw[Yf oM,Yf oM]
 refine zR ?_
 all_goals
  rw[hend] at hc hbr;have hc:At M M (fun _=>False) Bc Mc [zbi Pc (zbJ (l.take 20) (back.take 0)).a,zbi Q2 (zbJ (l.take 20) (back.take 0)).b,zaB 37 1 ta vs.length tc vs,zaB 37 1 (some ⟨r4,0,none⟩) 0 0 []]:=hc
  refine zak (σ:=Nat×Mem×Mem×NP×Option Addr×Nat×List Value) [13,9] (fun y=>[(13,.int .i64 (y.1:Nat)),(9,.slice y.2.2.2.2.1 y.2.2.2.2.2.2.length y.2.2.2.2.2.1)]) (fun _=>[.gone r3,.gone r4]) (fun y=>y.2.1)
   (fun|⟨j,Md,Bd,Qd,ua,uc,ws⟩=>(j≤20∧j≤back.length)∧At M M (fun _=>False) Bd Md [zbi Pc (zbJ (l.take 20) (back.take j)).a,zbi Qd (zbJ (l.take 20) (back.take j)).b,zaB 37 1 ta vs.length tc vs,zaB 37 1 ua ws.length uc ws]∧Qd.n=Q.n∧(Qd.N≤106000000000+j∧Qd.K≤200000000+256*j)∧Brows M ws (zcc (back.take j))∧ws.length≤j) (fun y=>20 - y.1)
   ⟨0,Mc,Bc,Q2,some ⟨r4,0,none⟩,0,[]⟩ ⟨⟨by omega,by omega⟩,hc,hq2.n,⟨by omega,by omega⟩,⟨rfl,fun _ _ _ h=>by simp at h⟩,Yd _⟩ zS ?_
  rintro ⟨j,Md,Bd,Qd,ua,uc,ws⟩ ⟨⟨j1,j2⟩,hd,m1,⟨k3,k4⟩,hbw,hwl⟩;dsimp only at *;refine brn (fun g4=>?_) (fun g4=>?_)
  focus
   refine brn (fun g5=>?_) (fun g5=>?_)
   focus
    have hlt:j<back.length:=by have:=Zd0 g4;omega
    have h20:j<20:=by have:=Zd0 g5;omega
    obtain⟨q0,bx,ox,cx,ea,hrows,hrow,hcx,pa,pn,pc,rfl,hpa,hpn,hpc⟩:=hb.at (i:=j) oD hlt;obtain⟨x,hx⟩:=oI (back[j]);obtain⟨gv1,gv2⟩:=zHA (l.take 20) back hlt;rw[←hx] at hpa gv1 gv2;have hpl:=hpa.maplen
    subst hpl;have hMB:M.le Bd:=hd.tn.bb
    have hfit:=zuD (l:=l.take 20) (back:=back.take j) (by rw[Ya2];omega) (by rw[Ya2];omega);refine ob oM ?_;refine atp ea ?_;refine zR ?_;refine on (Ycg (Yc hMB hd.le) hrow) ?_;refine zR ?_;have hsub:=zmY (l:=x) (cc:=pc) (zdn hd 1 rfl) oM oM hfit.rb oD 0 (hpa.le hMB) hpn
    rw[m1] at hsub;refine hsub.mono ?_;rintro v M5 ⟨rfl,h5⟩;obtain⟨B5,Q5,hb5,hq5,h6⟩:=zm1 hd 1 rfl h5;refine zR ?_;rw[←gv1] at h6;obtain⟨id,hid⟩:=oI ((zbd (zbJ (l.take 20) (back.take j)).b 0 x).2.1);obtain⟨e0,he0⟩:=oI ((zbd (zbJ (l.take 20) (back.take j)).b 0 x).2.2);rw[←hid,←he0];rw[←he0] at gv2;have hq5N:=hq5.N
    have hq5K:=hq5.K;have f1:Q5.N≤106000000000+((j+1:Nat):Int):=by push_cast;omega
    have f2:Q5.K≤200000000+256*(j+1):=by omega
    refine brn (fun g3=>?_) (fun g3=>?_)
    ·have hz:e0=0:=Zd0 g3;rw[if_pos hz] at gv2;refine ob oM ?_;refine atp ea ?_;refine zR ?_;refine on (Ycg (Yc hMB (Yc hb5 h6.le)) hrow) ?_;refine zR ?_;refine h6.appV 3 rfl oM (by simp[maxLen];omega) oC fun a7 c7 M7 hc7 h7=>?_
     have h7':At M M (fun _=>False) B5 M7 [zbi Pc (zbJ (l.take 20) (back.take (j+1))).a,zbi Q5 (zbJ (l.take 20) (back.take (j+1))).b,zaB 37 1 ta vs.length tc vs,zaB 37 1 a7 (ws++[Value.slice pa x.length pc]).length c7 (ws++[Value.slice pa x.length pc])]:=h7.c (by rw[Yi,Ybv];rfl);have hl7:ws.length+1=(ws++[Value.slice pa x.length pc]).length:=by rw[Yi];rfl
     rw[hl7];refine zP ?_;have f3:Brows M (ws++[Value.slice pa x.length pc]) (zcc (back.take (j+1))):=by rw[gv2];exact hbw.snoc hpc hpa
     have f4:(ws++[Value.slice pa x.length pc]).length≤j+1:=by omega
     exact⟨⟨j+1,M7,B5,Q5,a7,c7,ws++[Value.slice pa x.length pc]⟩,⟨⟨by omega,by omega⟩,h7',hq5.n.trans m1,⟨f1,f2⟩,f3,f4⟩,by dsimp only;omega,zS⟩
    ·have hz:¬e0=0:=Zd1 g3;rw[if_neg hz] at gv2;refine zP ?_;have f3:Brows M ws (zcc (back.take (j+1))):=by rw[gv2];exact hbw
     exact⟨⟨j+1,M5,B5,Q5,ua,uc,ws⟩,⟨⟨by omega,by omega⟩,h6,hq5.n.trans m1,⟨f1,f2⟩,f3,by dsimp only;omega⟩,by dsimp only;omega,zS⟩
   have hend:back.take j=back.take 20:=by have:=Zd1 g5;rw[show j=20 by omega]
  rotate_left
  have hend:back.take j=back.take 20:=by
   have:=Zd1 g4;rw[Yf oM,Yf oM]
  all_goals
   rw[hend] at hd hbw;obtain⟨z1,z2,z3,z4⟩:=zKl (l:=l.take 20) (back:=back.take 20) (by rw[Ya2];omega) (by rw[Ya2];omega);obtain⟨W1,hW1⟩:=oI (zbJ (l.take 20) (back.take 20));rw[←hW1] at hd z1 z2 z3 z4;obtain⟨WF,hWF⟩:=oI (ziv 10 W1);rw[←hWF] at z2 z3 z4;clear hW1
   refine zak (σ:=Nat×Mem×Mem×NP×NP×W2) [16] (fun y=>[(16,.int .i64 (y.1:Nat))]) (fun _=>[.gone r3,.gone r4]) (fun y=>y.2.1)
    (fun|⟨k,Me,Be,Pe,Qe,w⟩=>k≤10∧At M M (fun _=>False) Be Me ([zbi Pe w.a,zbi Qe w.b]++[zaB 37 1 ta vs.length tc vs,zaB 37 1 ua ws.length uc ws])∧(Pe.n=P.n∧Qe.n=Q.n)∧(Pe.N≤107000000000+160000000*k∧(Pe.K:Int)≤300000000+160000000*(k:Int)∧Qe.N≤107000000000+160000000*k∧(Qe.K:Int)≤300000000+160000000*(k:Int))∧WF=ziv (10 - k) w∧DoneF (10 - k) w) (fun y=>10 - y.1)
    ⟨0,Md,Bd,Pc,Qd,W1⟩ ⟨by omega,hd,⟨n1,m1⟩,⟨by omega,by omega,by omega,by omega⟩,hWF,z1⟩ zS ?_
   rintro ⟨k,Me,Be,Pe,Qe,w⟩ ⟨d1,he,⟨d2,d3⟩,⟨d4,d5,d6,d7⟩,d8,d9⟩;dsimp only at *;have hsn:=d9.sn
   refine brn (fun g6=>?_) (fun g6=>?_)
   focus
    have h10:k<10:=by have:=Zd0 g6;omega
    have hst:=ziL (zdn he 0 rfl) oM (by have:=hsn.1.1;omega);rw[d2] at hst;refine zR ?_;refine hst.mono ?_;rintro v Mf ⟨hle6,hS⟩;obtain⟨_,_,ha,hc',ms,_,_,_,rfl,_,_,hms,_⟩:=hS.ex;have hml:ms.length=w.a.C.X.S.l.length:=by rw[←hms,Y9]
    have hf:=he.upN hle6;have hst2:=ziL (zdn hf 1 rfl) oM (by have:=hsn.2.1;omega)
    rw[d3] at hst2;refine zR ?_;refine hst2.mono ?_;rintro v Mg ⟨hle7,hS⟩;obtain⟨_,_,ha',hc'',ms',_,_,_,rfl,_,_,hms',_⟩:=hS.ex;have hml':ms'.length=w.b.C.X.S.l.length:=by rw[←hms',Y9]
    have hg:=hf.upN hle7;refine zR ?_;have hA:=hsn.1.2
    have hB:=hsn.2.2;refine obr (inR_i64 oM) ?_;obtain⟨k',hk'⟩:∃ k',10 - k=k'+1:=⟨9 - k,by omega⟩
    rw[hk'] at d8 d9;refine brn (fun g7=>?_) (fun g7=>?_)
    focus
     have hne:zjy w≠0:=by have:=Zd0 g7;unfold zjy;omega
     obtain⟨hF,hG⟩:=d9.2.resolve_left hne;rw[ziv,if_neg hne] at d8;have hro:=zoE hg (n:=6) hF oD oM oM oM oM
     rw[d2,d3] at hro;refine zR ?_;refine hro.mono ?_;rintro v Mh ⟨rfl,Bh,Ph,Qh,hbh,hph,hqh,hh⟩;have e1:=hph.N
     have e2:=hph.K;have e3:=hqh.N
     have e4:=hqh.K;have f0:((k+1:Nat):Int)=(k:Int)+1:=rfl
     have f1:Ph.N≤107000000000+160000000*((k+1:Nat):Int):=by rw[f0];omega
     have f2:(Ph.K:Int)≤300000000+160000000*((k+1:Nat):Int):=by rw[f0];omega
     have f3:Qh.N≤107000000000+160000000*((k+1:Nat):Int):=by rw[f0];omega
     have f4:(Qh.K:Int)≤300000000+160000000*((k+1:Nat):Int):=by rw[f0];omega
     have f5:10 - (k+1)=k':=by omega
     refine zP ?_;exact⟨⟨k+1,Mh,Bh,Ph,Qh,zfx 6 w⟩,⟨h10,hh,⟨hph.n.trans d2,hqh.n.trans d3⟩,⟨f1,f2,f3,f4⟩,by rw[f5];exact d8,by rw[f5];exact hG⟩,by dsimp only;omega,zS⟩
    focus
     have h0:zjy w=0:=by have:=Zd1 g7;unfold zjy;omega
     have hw:WF=w:=by rw[d8,ziv,if_pos h0]
     have hy:=hg
   rotate_left
   have hw:WF=w:=by
    have:=Zd1 g6;rw[d8,show 10 - k=0 by omega];rfl
   have hy:=he
   all_goals
    subst hw;have htd:=zqZ (zdn hy 1 rfl)
    rw[d3] at htd;refine zR ?_;refine htd.mono ?_;rintro v Mi ⟨Bi,a5,c5,Q5,rfl,hbi,hel,hq5,h6⟩;have h7:=hy.call 1 rfl (zfY h6)
    have hb7:M.le _:=h7.tn.bb;have hcm:=zzo (c:=c5) (cb:=tc) (hel.imp h7.le fun cs x _ h=>h.le h7.le) (h7.row 2 rfl).src (hbr.le (Yc hb7 h7.le)) oM z3
    refine zR ?_;refine hcm.mono ?_;rintro v Mj ⟨rfl,hlej⟩;have h8:=h7.upN hlej
    have htd2:=zqZ (zdn h8 0 rfl);rw[d2] at htd2;refine zR ?_;refine htd2.mono ?_;rintro v Mk ⟨Bk,a9,c9,P9,rfl,hbk,hel2,hp9,h9⟩;have h10:=h8.call 0 rfl (zfY h9)
    have hb10:M.le _:=h10.tn.bb;have hcm2:=zzo (c:=c9) (cb:=uc) (hel2.imp h10.le fun cs x _ h=>h.le h10.le) (h10.row 3 rfl).src (hbw.le (Yc hb10 h10.le)) oM z4
    refine zR ?_;refine hcm2.mono ?_;rintro v Ml ⟨rfl,hlel⟩;have h11:=h10.upN hlel
    have hpN:=hp9.N;have hqN:=hq5.N
    refine zR ?_;have hst:=ziL (zdn h11 0 rfl) oM (by have:=hsn.1.1;show WF.a.C.X.sn.length≤_;omega)
    rw[hp9.n.trans d2] at hst;refine hst.mono ?_;rintro v Mm ⟨hle6,hS⟩;obtain⟨_,_,ha,hc',ms,_,_,_,rfl,_,_,hms,_⟩:=hS.ex;have hml:ms.length=WF.a.C.X.S.l.length:=by rw[←Y9 (f:=MX.msg),hms]
    have h12:=h11.upN hle6;have hst2:=ziL (zdn h12 1 rfl) oM (by have:=hsn.2.1;show WF.b.C.X.sn.length≤_;omega)
    rw[hq5.n.trans d3] at hst2;refine zR ?_;refine hst2.mono ?_;rintro v Mn ⟨hle7,hS⟩;obtain⟨_,_,ha',hc'',ms',_,_,_,rfl,_,_,hms',_⟩:=hS.ex;have hml':ms'.length=WF.b.C.X.S.l.length:=by rw[←Y9 (f:=MX.msg),hms']
    have h13:=h12.upN hle7;have hz:ms.length+ms'.length=0:=by rw[hml,hml'];exact z2
    refine zV ?_;refine brn_t oE ?_;refine zR ?_;refine awake21_ok.mono ?_;rintro v Mo ⟨rfl,hleo⟩;refine zR ?_;exact⟨rfl,Yc (Yc h13.tn.bb h13.le) hleo⟩
end
end Go.Proofs.YtlgbofpennelhaaGreat
namespace Go.Proofs.YtlgbofpennelhaaGreat.nodeMeets
open Go.ChangeShapes Go.WideShapes Go.ChangeAt Go.RowKit Go.Vm Go.Proofs.YtlgbofpennelhaaGreat.Br
set_option linter.unusedVariables false
set_option maxRecDepth 100000
theorem contract (H:Type) (enc:TypeId×Value→H) (W:World) (base:Nat) (args:Array Value) (ds gs:List (DataW H)) (before:List MemPlace)
  (hval:∀ (j:Nat) t v,Tryz.f3.params[j]? = some t→args[j]? = some v→Value.okWide Tryz.prog W .any base t v)
  (hW:DataW.Whole enc Tryz.prog Tryz.f3.params.toList Rows.nodeMeetsSpec.vars false W args.toList ds gs before) (hk:Rows.uptoSmall H (ds++gs)=true) :
  Calls Tryz.prog 3 args W fun e W'=>∃ v,e = .returned v∧Rows.nodeMeetsSpec.post enc Tryz.prog Tryz.f3 false true false false W args v W':=by
 refine zJw (s:=Rows.nodeMeetsSpec) (fn:=Tryz.f3) (fun H ds h=>by match ds,h with|[d0,d1],_=>exact⟨rfl,rfl,rfl⟩) rfl rfl (by kernel_rfl) H enc W args ds gs before hW ?_;obtain⟨p,q,hA,hV, -, -, -⟩:=hW;obtain⟨rfl,rfl⟩:=trodVars_none hV;have hb:=zJx hk
 rw[Tryz.params3] at hA hval;obtain⟨v0,vs0,d0,ds0,p0,q0,hargs0,rfl,rfl,⟨n0,h0⟩,r0⟩:=trodAll_cons hA;obtain⟨v1,vs1,d1,ds1,p1,q1,hargs1,rfl,rfl,⟨n1,h1⟩,r1⟩:=trodAll_cons r0;obtain⟨rfl,rfl,rfl⟩:=trodAll_nil r1;subst hargs1;obtain rfl:args = #[v0,v1]:=by cases args;simp_all
 obtain⟨-, L,la,ln,lc,hcs,hl,hln,hlc⟩:=zzb H enc W _ _ _ _ h0 (hb _ (by simp));have hv0:=hval 0 _ v0 rfl rfl
 obtain rfl:=zvV Tryz.underlying22 rfl hv0 hcs;obtain⟨-, L',la',ln',lc',hcs',hl',hln',hlc'⟩:=zzb H enc W _ _ _ _ h1 (hb _ (by simp));have hv1:=hval 1 _ v1 rfl rfl
 obtain rfl:=zvV Tryz.underlying22 rfl hv1 hcs';exact zDw hl hln hl' hln'
set_option maxRecDepth 100000 in
theorem lifted (os:Os) (started:os.Started) (H:Type) (enc:TypeId×Value→H) (F:Stop.Interp) :
  ReturnsInHanded {} Tryz.checked os 3 .any ((Rows.OpenSpec.upto Rows.nodeMeetsSpec).pre6 enc Tryz.prog Tryz.f3 Rows.nodeMeetsUptoRow.domain false) (((Rows.OpenSpec.upto Rows.nodeMeetsSpec).at F).post enc Tryz.prog Tryz.f3 false true false false):=by
 refine returnsInHanded_of_cond (C:=Tryz.checked) (s:=Rows.OpenSpec.upto Rows.nodeMeetsSpec) (k:=Rows.uptoSmall) rfl own started (by kernel_rfl) Tryz.func3
  (OpenSpec.witness (enc:=enc) (C:=Tryz.checked) (s:=Rows.OpenSpec.upto Rows.nodeMeetsSpec) (k:=Rows.uptoSmall) rfl false ⟨#[], #[.slice none 0 0,.slice none 0 0],[]⟩ 12 (by kernel_rfl) (by kernel_rfl) (by kernel_rfl)
   (x:=([.nil,.nil],[],[])) (by kernel_rfl) rfl (by kernel_rfl)) ?_
 intro W base args ds gs before hval hW _ hk _;exact contract H enc W base args ds gs before hval hW hk
noncomputable abbrev Q:Program:=Tryz.pinned.checked.prog
abbrev C:OpenClaim:=Rows.nodeMeetsUptoRow
theorem k2:laidOutB Q=true:=by kernel_rfl
theorem k3:mapsRowed Q=true:=by kernel_rfl
theorem k10:(C.inPlace == Q.inPlace 3)=true:=by kernel_rfl
theorem k11:(C.unfollowed == Q.unfollowed 3)=true:=by kernel_rfl
theorem k12:(C.recurses == Q.recurses 3)=true:=by kernel_rfl
theorem k13:(C.named == Q.varsNamed 3)=true:=by kernel_rfl
theorem k22:(C.plainKeys == Q.plainKeys)=true:=by kernel_rfl
theorem zLf:Q.stopsHeard=true:=by kernel_rfl
theorem k24:Q.mayEnter=true:=by kernel_rfl
theorem zLg:(C.lifted == Q.liftsFinal)=true:=by kernel_rfl
theorem zLh:(Q.make == some C.make)=true:=by kernel_rfl
theorem zJk:joinedFacts Q 3 Tryz.f3 (Rows.OpenSpec.upto Rows.nodeMeetsSpec).bare C=true:=by
 simp only[joinedFacts,Yl];exact⟨⟨⟨⟨⟨⟨⟨⟨⟨⟨⟨⟨⟨⟨⟨⟨⟨⟨⟨⟨⟨⟨⟨⟨⟨⟨⟨⟨⟨⟨⟨(by kernel_rfl),k2⟩,k3⟩,(by kernel_rfl)⟩,(by kernel_rfl)⟩,(by kernel_rfl)⟩,(by kernel_rfl)⟩,(by kernel_rfl)⟩,(by kernel_rfl)⟩,k10⟩,k11⟩,k12⟩,k13⟩,(by kernel_rfl)⟩,(by kernel_rfl)⟩,(by kernel_rfl)⟩,(by kernel_rfl)⟩,(by kernel_rfl)⟩,(by kernel_rfl)⟩,(by kernel_rfl)⟩,(by kernel_rfl)⟩,(by kernel_rfl)⟩,k22⟩,(by kernel_rfl)⟩,zLf⟩,k24⟩,zLg⟩,zLh⟩,(by kernel_rfl)⟩,(by kernel_rfl)⟩,(by kernel_rfl)⟩,(by kernel_rfl)⟩
theorem over:Rows.nodeMeetsUptoRow.holds Tryz.pinned (Rows.OpenSpec.upto Rows.nodeMeetsSpec):=
 OpenClaim.holds_of_cond 3 Tryz.f3 rfl rfl rfl rfl rfl rfl rfl ⟨rfl,rfl,rfl,rfl,rfl⟩ rfl rfl rfl rfl rfl (by kernel_rfl) Tryz.func3 zJk
  (Zd0 (by kernel_rfl)) (by unfold Func.isWrapper;first|(rw[if_pos (by decide +kernel)];kernel_rfl)|(rw[if_neg (by decide +kernel)];exact⟨rfl,rfl⟩))
  (fun os started H enc _ F=>lifted os started H enc F)
theorem proved:Rows.NodeMeetsUptoSaid:=
 over
end Go.Proofs.YtlgbofpennelhaaGreat.nodeMeets
