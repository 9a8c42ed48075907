/- Part of this proof;laid by program. -/
import Derived.Test.YtpdkkbpkplhdpaaGreatJ14
set_option linter.unusedVariables false
set_option linter.unusedSimpArgs false
namespace Go.Proofs.YtpdkkbpkplhdpaaGreat
open Go Go.Vm
attribute [local irreducible] Brn Ob Grow CallsM inR zax zav Mem.row Mem.cells Mem.setCells Mem.upd Go.Vm.Own zaD za5 zbc zaJ New SrcOk subA NewSl Mem.textAt Mem.mapAt Mem.iterAt zau zaj Wr NewEls Elems
set_option maxRecDepth 10000
section
variable {M M0:Mem} {g p b:Nat} {D:zf} {es:FsT}
def zai:Nat→zf→Int→Int→List (List UInt8)→zf×Int×Int×List (List UInt8)×Int
 | 0,D,next,last,all=>(D,next,last,all,0)
 | f+1,D,next,last,all=>
  if 99999<next∨(zas D (zc next)).2=4 then (D,next,last,all,0)
  else if (zas D (zc next)).2≠0 then (D,next,last,[],(zas D (zc next)).2)
  else if zae (zaN (bl (zas D (zc next)).1))<(bl (zas D (zc next)).1).length then
   (if (zcB D (zc next) (zae (zaN (bl (zas D (zc next)).1)))).2≠0 then ((zcB D (zc next) (zae (zaN (bl (zas D (zc next)).1)))).1,next+1,next,[],(zcB D (zc next) (zae (zaN (bl (zas D (zc next)).1)))).2)
   else ((zcB D (zc next) (zae (zaN (bl (zas D (zc next)).1)))).1,next+1,next,all++zaN (bl (zas D (zc next)).1),0))
  else zai f D (next+1) next (all++zaN (bl (zas D (zc next)).1))
def zbP (D:zf) (L:zaE):zf×zaE×List (List UInt8)×Int:=
 let r:=removeAll D (zaW D fun k=>decide (k<L.first))
 if r.2≠0 then (r.1,L,[],r.2) else
 let o:=zai (100000 - L.first).toNat r.1 L.first L.last []
 if o.2.2.2.2≠0 then (o.1,{ L with last:=o.2.2.1 },[],o.2.2.2.2) else
 let q:=removeAll o.1 (zaW o.1 fun k=>decide (o.2.1≤k)).reverse
 (q.1,{ L with last:=o.2.2.1 },o.2.2.2.1,q.2)
theorem NamesW.l {D':zf} (h:NamesW D) (e:∀ f∈D'.l,f∈D.l∨(∃ k:Int,¬(k<1∨99999<k)∧f.name=zc k)∨zfu f.name):NamesW D':=fun f hf=>by
 rcases e f hf with hf|hf
 ·exact h f hf
 ·exact hf
theorem zld {k:Int} (h:z8 D (zc k)=0):¬(k<1∨99999<k):=fun hk=>by
 have:=(zpe h).2;have e:zc k=ByteArray.empty:=by unfold zc;rw[if_pos hk]
 rw[e] at this;exact absurd this (by decide)
theorem NamesW.remove (h:NamesW D) (s:ByteArray):NamesW (zC D s).1:=by
 unfold zC;split
 ·exact h
 ·exact h.l fun f hf => .inl (withoutR_mem.1 hf).1
theorem NamesW.cut (h:NamesW D) (k:Int) (n:Int):NamesW (zcB D (zc k) n).1:=by
 unfold zcB;split
 ·exact h
 ·rename_i h0;split
  ·exact h
  ·have hk:=zld (zbR (by simpa using h0)).1;refine h.l fun f hf=>?_
   rcases withR_mem.1 hf with rfl|⟨hf,_⟩
   ·exact .inr (.inl ⟨k,hk,rfl⟩)
   ·exact .inl hf
theorem NamesW.removeAll:∀ {ks:List Int} {D:zf},NamesW D→NamesW (removeAll D ks).1
 | [],_,h=>h
 | k::r,D,h=>by
  rw[Go.Proofs.YtpdkkbpkplhdpaaGreat.removeAll];split
  ·exact h.remove _
  ·exact NamesW.removeAll (h.remove _)
theorem LogAt.keepS {L:zaE} (h:LogAt M0 M g p b D es L) {S:Nat→Prop} {M':Mem} (hk:Mem.keep S M M') (hS:∀ y,S y→M0 y=none∧¬zbj g p b es y):LogAt M0 M' g p b D es L:=
 ⟨⟨hk.le h.disk.le fun y hy=>(hS y hy).1,h.disk.at'.mono fun y o hy ho=>hk y o (fun e=>(hS y e).2 (.inr hy)) ho,h.disk.rel,h.disk.inv,h.disk.fresh⟩,hk _ _ (fun e=>(hS g e).2 (.inl rfl)) h.self,h.fresh⟩
def AllAt (M0 M:Mem) (a:Option Addr) (n c:Nat) (all:List (List UInt8)):Prop:=NewEls M0 T.zaK 1 a n c (BytesW M) all M
theorem AllAt.up {a:Option Addr} {n c:Nat} {all:List (List UInt8)} (h:AllAt M0 M a n c all) {M':Mem} (hle:M.le M'):AllAt M0 M' a n c all:=(NewEls.up h hle).imp fun _ _ _ hx=>hx.le hle
theorem AllAt.app {Z:Mem} {S:Nat→Prop} {a a2:Option Addr} {n c n2:Nat} {all more:List (List UInt8)} (h:AllAt M0 Z a n c all) (hZ:Z.le M) (hS1:∀ y,S y→Z y=none) (hS2:∀ y,S y→M y≠none) (h2:Elems Z 1 a2 n2 (BytesW Z) more) {k:Option Addr→Nat→Mem→Prop} (hb:n+n2≤4000000000000)
  (hk:∀ a' c' M',AllAt M0 (M'.minus S) a' (n+n2) c' (all++more)→Mem.keep (z6 a) M M'→(∀ y,z6 a y→M0 y=none∧¬S y)→(∀ y o,Z y=some o→¬z6 a y→(M'.minus S) y=some o)→k a' c' M'):za5 M 1 a2 n2 fun vs=>zaD T.zaK 1 24 a n c n2 vs M k:=by
 unfold Elems at h2;obtain⟨css2,s2,l2,m2,u2,r2⟩:=h2;refine zdR (s2.le hZ) ?_;unfold AllAt NewEls at h;obtain⟨css,s1,l1,m1,u1,r1⟩:=h;have one:∀ {cs:List Value} {x:List UInt8},BytesW Z cs x→∀ u∈cs,u.oneCell'=true:=fun ⟨_,_,_,e,_⟩ u hu=>by rw[e] at hu;simp at hu;subst hu;rfl
 have hblk:∀ y,z6 a y→M0 y=none∧¬S y:=fun y ⟨q,hq,e⟩=>by
  obtain⟨h3,cs,h4⟩:=s1.block hq;rw[e] at h3 h4;refine⟨h3,fun hs=>?_⟩;have:=hS1 y hs
  unfold Mem.has at h4;rw[h4] at this;cases this
 have hm0:M0.le (M.minus (z6 a)):=Mem.le_minus (Mem.le_trans s1.le hZ) fun y hy=>(hblk y hy).1
 refine zge (M.minus (z6 a)) _ (s1.rebase hZ) (by omega) (by simp[maxLen];omega) (fun u hu=>?_) fun a' c' M' hN hkp=>?_
 ·obtain⟨cs,hcs,hu⟩:=List.mem_flatten.1 hu;obtain⟨i,hi,rfl⟩:=List.getElem_of_mem hcs;exact one (r2 i _ _ (List.getElem?_eq_getElem hi) (List.getElem?_eq_getElem (by omega))) u hu
 ·have hold:∀ y o,Z y=some o→¬z6 a y→(M'.minus S) y=some o:=fun y o hy hny=>by
   unfold Mem.minus;rw[if_neg fun hs=>by rw[hS1 y hs] at hy;cases hy];exact hkp y o hny (hZ y o hy)
  have mv:∀ {cs:List Value} {x:List UInt8},BytesW Z cs x→BytesW (M'.minus S) cs x:=fun ⟨pa,pn,pc,e,hw⟩=>⟨pa,pn,pc,e,hw.mono fun q o hq ho=>hold _ _ ho fun ⟨q2,hq2,e2⟩=>by
   obtain⟨cs1,hh1⟩:=(s1.block hq2).2;obtain⟨cs2,hh2⟩:=hw.block hq;rw[e2] at hh1
   exact absurd (hh1.inj hh2).1 (by decide)⟩
  have hN2:NewSl M0 T.zaK 1 a' (n+n2) c' (css.flatten++css2.flatten) (M'.minus S):=by
   obtain⟨w0,w1,w2,w3⟩:=newSl_iff.1 hN;refine newSl_iff.2 ⟨fun y o hy=>?_,w1,w2,w3.imp id fun ⟨b1,cs,ha,hb1,hh,hr⟩=>⟨b1,cs,ha,?_,?_,hr⟩⟩
   ·exact hold y o (s1.le y o hy) fun hbl=>by rw[(hblk y hbl).1] at hy;cases hy
   ·cases e:M0 b1 with
    | none=>rfl
    | some o=>rw[hm0 b1 o e] at hb1;cases hb1
   ·unfold Mem.has at hh ⊢;unfold Mem.minus;rw[if_neg fun hs=>?_]
    ·exact hh
    ·rcases Classical.em (z6 a b1) with hbl|hbl
     ·exact(hblk b1 hbl).2 hs
     ·unfold Mem.minus at hb1;rw[if_neg hbl] at hb1;exact hS2 b1 hs hb1
  refine hk a' c' M' ?_ hkp hblk hold;unfold AllAt NewEls;refine⟨css++css2,by rw[List.flatten_append];exact hN2,by simp[l1,l2],by simp[m1,m2],fun cs hcs=>?_,fun i cs x hi hx=>?_⟩
  ·rcases List.mem_append.1 hcs with hcs|hcs
   ·exact u1 cs hcs
   ·exact u2 cs hcs
  ·by_cases hlt:i<css.length
   ·rw[List.getElem?_append_left hlt] at hi;rw[List.getElem?_append_left (by omega)] at hx;exact mv (r1 i cs x hi hx)
   ·rw[List.getElem?_append_right (by omega)] at hi;rw[List.getElem?_append_right (by omega),show i - all.length=i - css.length by omega] at hx;exact mv (r2 _ cs x hi hx)
end
section
variable {M M0:Mem} {g p b:Nat} {D:zf} {es:FsT}
theorem LogAt.z {L:zaE} (_h:LogAt M0 M g p b D es L) {M':Mem} {D':zf} {es':FsT} {L':zaE} (h':LogAt (M.minus (zbj g p b es)) M' g p b D' es' L'):(M.minus (zbj g p b es)).le (M'.minus (zbj g p b es')):=h'.base.2
theorem LogAt.zle {L:zaE} (h:LogAt M0 M g p b D es L) {M':Mem} (hle:M.le M'):(M.minus (zbj g p b es)).le (M'.minus (zbj g p b es)):=(h.base.1.to hle).base.2
structure OpS where
 f:Nat
 next:Int
 M:Mem
 D:zf
 es:FsT
 last:Int
 a:Option Addr
 c:Nat
 all:List (List UInt8)
structure OpI (B0:Mem) (g p b bq:Nat) (L:zaE) (R:zf×Int×Int×List (List UInt8)×Int) (y:OpS):Prop where
 fu:y.f=(100000 - y.next).toNat∧1≤y.next∧y.next≤100000
 log:LogAt B0 y.M g p b y.D y.es { L with last:=y.last }
 bx:(y.M.minus (zbj g p b y.es)).has bq T.zbQ [ptr g]
 all':AllAt B0 (y.M.minus (zbj g p b y.es)) y.a y.all.length y.c y.all
 nm:NamesW y.D
 eq:R=zai y.f y.D y.next y.last y.all
 len:(y.all.length:Int)+(100000 - y.next)*1048576≤104857600000
set_option maxRecDepth 10000 in
theorem zBB {L:zaE} (h:LogAt M0 M g p b D es L) (hW:NamesW D) (hf:1≤L.first∧L.first≤99999) (_hfl:L.failed=false) :
  CallsM Tryz.prog F.zhz [ptr g] M fun v M'=>∃ es' a n c,v = .tuple #[.slice a n c,.int .i64 (zbP D L).2.2.2]∧LogAt M0 M' g p b (zbP D L).1 es' (zbP D L).2.1 ∧
   ((zbP D L).2.2.2=0→AllAt M0 (M'.minus (zbj g p b es')) a n c (zbP D L).2.2.1):=by
 refine zrg (by simp) ?_;obtain⟨h0,hM0⟩:=h.base;obtain⟨B0,hB0⟩:∃ B0,B0=M.minus (zbj g p b es):=⟨_,rfl⟩
 rw[←hB0] at h0 hM0;refine zR ?_;refine new (fun bq hbl=>?_);replace hbl:M bq=none:=hbl;have hle1:M.le (M.setCells bq T.zbQ [ptr g]):=Mem.le_setCells hbl
 have hb1:(M.setCells bq T.zbQ [ptr g]).has bq T.zbQ [ptr g]:=Mem.has_setCells;obtain⟨M1,hM1⟩:∃ M1,M1=M.setCells bq T.zbQ [ptr g]:=⟨_,rfl⟩
 rw[←hM1] at hle1 hb1;(conv=>whnf)
 erw [←hM1];have h1:=h0.to hle1
 refine(zoh h1 hW (zBA hb1 h1.self)).mono ?_;rintro v M2 ⟨a2,n2,c2,rfl,hn2,hN2⟩;have hle2:=hN2.le
 (conv=>whnf);refine ob (hb1.le hle2) ?_;(conv=>whnf);refine grow_same (Mem.le_trans hle1 hle2) ?_;refine zR ?_;have h2:=h1.to hle2
 have hs2:SrcOk (M2.minus (zbj g p b es)) 1 a2 n2 ((zaW D fun k=>decide (k<L.first)).map zaa):=hN2.src.minus fun q hq hb=>h1.full hb (hN2.block hq).1
 have hbl2:(M2.minus (zbj g p b es)).has bq T.zbQ [ptr g]:=by
  have:=hb1.le hle2;unfold Mem.has at this ⊢;unfold Mem.minus;rw[if_neg fun hb=>h0.full hb hbl];exact this
 have hsl:(zaW D fun k=>decide (k<L.first)).length≤64:=by
  have:=h.disk.inv.len;refine Nat.le_trans (List.length_filter_le _ _) ?_;simpa using this
 refine(zhj h2.base.1 hs2 (by omega)).mono ?_;rintro v M3 ⟨es3,rfl,h3⟩;have hz23:=h2.z h3
 obtain⟨r,hr⟩:∃ r,r=removeAll D (zaW D fun k=>decide (k<L.first)):=⟨_,rfl⟩
 have hO:zbP D L=if r.2≠0 then (r.1,L,[],r.2) else
  if (zai (100000 - L.first).toNat r.1 L.first L.last []).2.2.2.2≠0 then ((zai (100000 - L.first).toNat r.1 L.first L.last []).1,{ L with last:=(zai (100000 - L.first).toNat r.1 L.first L.last []).2.2.1 },[],(zai (100000 - L.first).toNat r.1 L.first L.last []).2.2.2.2)
  else ((removeAll (zai (100000 - L.first).toNat r.1 L.first L.last []).1 (zaW (zai (100000 - L.first).toNat r.1 L.first L.last []).1 fun k=>decide ((zai (100000 - L.first).toNat r.1 L.first L.last []).2.1≤k)).reverse).1,
   { L with last:=(zai (100000 - L.first).toNat r.1 L.first L.last []).2.2.1 },(zai (100000 - L.first).toNat r.1 L.first L.last []).2.2.2.1,
   (removeAll (zai (100000 - L.first).toNat r.1 L.first L.last []).1 (zaW (zai (100000 - L.first).toNat r.1 L.first L.last []).1 fun k=>decide ((zai (100000 - L.first).toNat r.1 L.first L.last []).2.1≤k)).reverse).2):=by rw[hr];rfl
 rw[←hr] at h3 ⊢;have hWr:NamesW r.1:=hr▸hW.removeAll
 replace h3:LogAt B0 M3 g p b r.1 es3 L:=h3.mono h2.base.2;have hbl3:=hbl2.le hz23
 clear hbl2 hz23 hs2 h2 hN2 hle2 hsl;(conv=>whnf);refine brn (fun e=>?_) (fun e=>?_)
 ·have e1:r.2≠0:=by simpa using e
  refine zR ?_;rw[hO,if_pos e1];exact⟨es3,none,0,0,rfl,h3.mono hM0,fun h=>absurd h e1⟩
 have e1:¬r.2≠0:=by simpa using e
 rw[if_neg e1] at hO;refine zR ?_;refine on ((hbl3.le (Mem.minus_le _ _)).c1 rfl) ?_;(conv=>whnf);refine on (h3.self.c1 rfl) ?_;(conv=>whnf)
 obtain⟨R,hR⟩:∃ R,R=zai (100000 - L.first).toNat r.1 L.first L.last []:=⟨_,rfl⟩
 rw[←hR] at hO
 refine za6 (σ:=OpS) [5] (fun y=>[(5,.slice y.a y.all.length y.c)]) (fun y=>[.gone bq,.live T.zr [.v (.int .i64 y.next)]]) (fun y=>y.M) (OpI B0 g p b bq L R) (fun y=>y.f) ⟨(100000 - L.first).toNat,L.first,M3,r.1,es3,L.last,none,0,[]⟩
  ⟨⟨rfl,by dsimp only;omega,by dsimp only;omega⟩,h3,hbl3,(NewEls.nil _ _ _ _).mono h3.base.2,hWr,hR,by dsimp only [List.length_nil];omega⟩ zS ?_
 rintro ⟨f,nx,Mc,Dc,ec,la,aa,ac,all⟩ ⟨⟨hfu,hnx1,hnx2⟩,hL,hbx,hA,hWc,hE,hlen⟩;dsimp only at hfu hnx1 hnx2 hL hbx hA hWc hE hlen;have hbM:=hbx.le (Mem.minus_le Mc (zbj g p b ec))
 refine zR ?_;refine on (hbM.c1 rfl) ?_;(conv=>whnf);refine on (hL.self.c1 rfl) ?_;refine zR ?_;refine(zei nx).mono ?_;rintro v M4 ⟨rfl,hle4⟩;have hL4:=hL.to hle4
 refine zT (hle4) ?_;refine zR ?_;refine(zza hL4.disk (zeX nx)).mono ?_;rintro v M5 ⟨pa,pn,pc,rfl,hpn,hpN⟩;have hL5:=hL4.to hpN.le
 have hz5:=hL.zle (Mem.le_trans hle4 hpN.le);have hbx5:=hbx.le hz5
 have hA5:=hA.up hz5;have hp5:SrcOk (M5.minus (zbj g p b ec)) 1 pa pn ((bl (zas Dc (zc nx)).1).map zl):=hpN.src.minus fun q hq hb=>hL4.full hb (hpN.block hq).1
 have hb5:=hbx5.le (Mem.minus_le M5 (zbj g p b ec));have hus:=hL.disk.inv.used
 (conv=>whnf);refine brn (fun e=>?_) (fun e=>?_)
 ·have e2:99999<nx:=Zd0 e
  have hRe:R=(Dc,nx,la,all,0):=by
   rw[hE];cases f with
   | zero=>rfl
   | succ f=>rw[zai,if_pos (.inl e2)]
  rw[if_neg (by rw[hRe];simp)] at hO;have hbMe:=hbx5.le (Mem.minus_le M5 (zbj g p b ec))
  refine zR ?_;refine on (hbMe.c1 rfl) ?_;refine zR ?_;refine new (fun b2 hb2=>?_);replace hb2:M5 b2=none:=hb2;have hle6:M5.le (M5.setCells b2 T.zr [.int .i64 nx]):=Mem.le_setCells hb2
  have hb6:(M5.setCells b2 T.zr [.int .i64 nx]).has b2 T.zr [.int .i64 nx]:=Mem.has_setCells;obtain⟨M6,hM6⟩:∃ M6,M6=M5.setCells b2 T.zr [.int .i64 nx]:=⟨_,rfl⟩
  rw[←hM6] at hle6 hb6;(conv=>whnf)
  erw [←hM6];have hL6:=hL5.to hle6
  refine(zoh hL6 hWc (zqo hb6)).mono ?_;rintro v M7 ⟨a7,n7,c7,rfl,hn7,hN7⟩
  have hsl7:n7≤64:=by
   have:=hL5.disk.inv.len;rw[hn7];refine Nat.le_trans (List.length_filter_le _ _) ?_;simpa using this
  refine zR ?_;refine(zlc hN7 (by omega)).mono ?_;rintro v M8 ⟨rfl,hN8, -⟩;have hL8:=hL6.to hN8.le
  have hs8:SrcOk (M8.minus (zbj g p b ec)) 1 a7 n7 ((zaW Dc fun k=>decide (nx≤k)).reverse.map zaa):=hN8.src.minus fun q hq hb=>hL6.full hb (hN8.block hq).1
  have hz8:=hL5.zle (Mem.le_trans hle6 hN8.le);have hb8:=(hbx5.le hz8).le (Mem.minus_le M8 (zbj g p b ec))
  refine zR ?_;refine on (hb8.c1 rfl) ?_;refine zR ?_;refine(zhj hL8.base.1 hs8 (by omega)).mono ?_;rintro v M9 ⟨es9,rfl,h9⟩;refine zR ?_;rw[hO,hRe];exact⟨es9,aa,all.length,ac,rfl,h9.mono (Mem.le_trans hM0 hL8.base.2),fun _=>((hA5.up hz8).up (hL8.z h9)).mono hM0⟩
 have e2:¬99999<nx:=Zd1 e;refine zR ?_;refine brn (fun e=>?_) (fun e=>?_)
 ·have e3:(zas Dc (zc nx)).2=4:=Zd0 e
  have hRe:R=(Dc,nx,la,all,0):=by
   rw[hE];cases f with
   | zero=>rfl
   | succ f=>rw[zai,if_pos (.inr e3)]
  rw[if_neg (by rw[hRe];simp)] at hO;have hbMe:=hbx5.le (Mem.minus_le M5 (zbj g p b ec))
  refine zR ?_;refine on (hbMe.c1 rfl) ?_;refine zR ?_;refine new (fun b2 hb2=>?_);replace hb2:M5 b2=none:=hb2;have hle6:M5.le (M5.setCells b2 T.zr [.int .i64 nx]):=Mem.le_setCells hb2
  have hb6:(M5.setCells b2 T.zr [.int .i64 nx]).has b2 T.zr [.int .i64 nx]:=Mem.has_setCells;obtain⟨M6,hM6⟩:∃ M6,M6=M5.setCells b2 T.zr [.int .i64 nx]:=⟨_,rfl⟩
  rw[←hM6] at hle6 hb6;(conv=>whnf)
  erw [←hM6];have hL6:=hL5.to hle6
  refine(zoh hL6 hWc (zqo hb6)).mono ?_;rintro v M7 ⟨a7,n7,c7,rfl,hn7,hN7⟩
  have hsl7:n7≤64:=by
   have:=hL5.disk.inv.len;rw[hn7];refine Nat.le_trans (List.length_filter_le _ _) ?_;simpa using this
  refine zR ?_;refine(zlc hN7 (by omega)).mono ?_;rintro v M8 ⟨rfl,hN8, -⟩;have hL8:=hL6.to hN8.le
  have hs8:SrcOk (M8.minus (zbj g p b ec)) 1 a7 n7 ((zaW Dc fun k=>decide (nx≤k)).reverse.map zaa):=hN8.src.minus fun q hq hb=>hL6.full hb (hN8.block hq).1
  have hz8:=hL5.zle (Mem.le_trans hle6 hN8.le);have hb8:=(hbx5.le hz8).le (Mem.minus_le M8 (zbj g p b ec))
  refine zR ?_;refine on (hb8.c1 rfl) ?_;refine zR ?_;refine(zhj hL8.base.1 hs8 (by omega)).mono ?_;rintro v M9 ⟨es9,rfl,h9⟩;refine zR ?_;rw[hO,hRe];exact⟨es9,aa,all.length,ac,rfl,h9.mono (Mem.le_trans hM0 hL8.base.2),fun _=>((hA5.up hz8).up (hL8.z h9)).mono hM0⟩
 have e3:¬(zas Dc (zc nx)).2=4:=Zd1 e;obtain⟨f',rfl⟩:∃ f',f=f'+1:=⟨f - 1,by omega⟩
 rw[zai,if_neg (by omega)] at hE;refine zR ?_;refine brn (fun e=>?_) (fun e=>?_)
 ·have e4:(zas Dc (zc nx)).2≠0:=by simpa using e
  rw[if_pos e4] at hE;rw[if_pos (by rw[hE];exact e4)] at hO;refine zR ?_;rw[hO,hE];exact⟨ec,none,0,0,rfl,hL5.mono hM0,fun h=>absurd h e4⟩
 have e4:¬(zas Dc (zc nx)).2≠0:=by simpa using e
 rw[if_neg e4] at hE;refine zR ?_;refine on (hb5.c1 rfl) ?_;refine zR ?_;refine on hL5.self.cells ?_;(conv=>whnf);refine ob (by simp) ?_;have hL6:=hL5.base.1.set { L with last:=nx }
 obtain⟨M6,hM6⟩:∃ M6,M6=M5.setCells g T.zcn (zf3 p { L with last:=nx }):=⟨_,rfl⟩
 rw[←hM6] at hL6;(conv=>whnf)
 erw [←hM6];have hz6:=hL5.z hL6
 have hb6:=hbx5.le hz6;have hA6:=hA5.up hz6
 have hp6:=hp5.le hL6.disk.le;refine ob (zd (by first|omega|(dsimp only;omega))) ?_;refine zR ?_
 have hrow:(bl (zas Dc (zc nx)).1).length≤1048576:=by
  have h1:zaA Dc (zc nx)=0:=by
   apply Classical.byContradiction;intro hh;have:(zas Dc (zc nx)).2=zaA Dc (zc nx):=by unfold zas;rw[if_pos hh]
   exact e4 (by rw[this];exact hh)
  have h2:(zas Dc (zc nx)).1=(zx Dc (zc nx)).all:=by unfold zas;rw[if_neg (by simp[h1])]
  have h3:=(zbs hL.disk.inv.sort (zbR h1).2).2;rw[h2,FileR.all_size];omega
 have hp6z:SrcOk (M6.minus (zbj g p b ec)) 1 pa pn ((bl (zas Dc (zc nx)).1).map zl):=hp5.le hz6;refine((zCW hp6z (by omega) (by have:=(newSl_iff.1 hpN).2.2.1;omega)).frame (Mem.minus_le _ _)).mono ?_;rintro v M7 ⟨A7,⟨sa,sn,sc,rfl,hsN⟩,hA7,hrest⟩;obtain⟨row,hrw⟩:∃ row,row=bl (zas Dc (zc nx)).1:=⟨_,rfl⟩
 rw[←hrw] at hE hrow hsN hpn ⊢;obtain⟨hi1,hi2,hi3⟩:=znU row.length row (Nat.le_refl _);have hsl:=hsN.len
 have hsn:9*(zaN row).length≤zae (zaN row):=by
  clear hsN hE hi1 hsl;generalize zaN row=ps at *;clear hi3
  induction ps with
  | nil=>simp
  | cons q qs ih=>
   have h1:=(hi2 q (by simp)).1;have h2:=ih fun z hz=>hi2 z (by simp[hz])
   simp only[zae,List.map_cons,List.sum_cons,List.length_cons] at h2 ⊢;omega
 have hle7:M6.le M7:=fun y o hy=>by
  by_cases hz:(M6.minus (zbj g p b ec)) y=none
  ·exact(hrest y o hz hy).1
  ·obtain⟨o2,ho2⟩:=Option.ne_none_iff_exists'.1 hz;have:=Mem.minus_le _ _ y o2 ho2
   rw[hy] at this;cases this;exact hA7 y o (hsN.le y o ho2)
 have hL7:=hL6.to hle7
 have hS1:∀ y,zbj g p b ec y→A7 y=none:=fun y hy=>by
  obtain⟨o,ho⟩:=Option.ne_none_iff_exists'.1 (hL6.full hy);exact(hrest y o (Mem.minus_in hy) ho).2
 (conv=>whnf);refine(hA6.up hsN.le).app hA7 hS1 (fun y hy=>hL7.full hy) hsN.elems (by omega) fun a8 c8 M8 hA8 hk8 hab hold8=>?_
 have hL8:=(hL7.mono hL5.base.2).keepS hk8 hab
 have hb8:(M8.minus (zbj g p b ec)).has bq T.zbQ [ptr g]:=hold8 _ _ (hb6.le hsN.le) fun ⟨q,hq,e⟩=>by
  obtain⟨-, cs,hh⟩:=NewEls.block hA6 hq;rw[e] at hh;exact absurd (hh.inj hb6).1 (by decide)
 have hbM8:=hb8.le (Mem.minus_le M8 (zbj g p b ec));have el:all.length+sn=(all++zaN row).length:=by rw[List.length_append,hsl]
 dsimp only;rw[el] at hA8 ⊢;refine zR ?_;have hpl:((pn:Nat):Int)=row.length:=by rw[hpn]
 refine brn (fun e=>?_) (fun e=>?_)
 ·have e5:zae (zaN row)<row.length:=by have:=Zd0 e;omega
  rw[if_pos e5] at hE;refine zR ?_;refine on (hbM8.c1 rfl) ?_;(conv=>whnf);refine on (hL8.self.c1 rfl) ?_;(conv=>whnf);refine on (hbM8.c1 rfl) ?_;(conv=>whnf);refine on (hL8.self.c1 rfl) ?_;refine zR ?_;refine(zei nx).mono ?_;rintro v M9 ⟨rfl,hle9⟩;have hL9:=hL8.to hle9
  refine zT (hle9) ?_;refine zR ?_;refine(zE5 hL9.disk.base.1 (zeX nx) (zae (zaN row))).mono ?_;rintro v M10 ⟨es10,rfl,h10⟩;have hL10:=hL9.base.1.call h10
  have hz10:=Mem.le_trans (hL8.zle hle9) (hL9.z hL10);replace hL10:=hL10.mono hL9.base.2;have hb10:=hb8.le hz10
  have hA10:=hA8.up hz10;have hW10:=hWc.cut nx (zae (zaN row))
  obtain⟨C,hC⟩:∃ C,C=zcB Dc (zc nx) (zae (zaN row)):=⟨_,rfl⟩
  rw[←hC] at hE hL10 hW10 ⊢;refine zR ?_;refine brn (fun e=>?_) (fun e=>?_)
  ·have e6:C.2≠0:=by simpa using e
   rw[if_pos e6] at hE;rw[if_pos (by rw[hE];exact e6)] at hO;refine zR ?_;rw[hO,hE];exact⟨es10,none,0,0,rfl,hL10.mono hM0,fun h=>absurd h e6⟩
  have e6:¬C.2≠0:=by simpa using e
  rw[if_neg e6] at hE;rw[if_neg (by rw[hE];simp)] at hO;have hbMe:=hb10.le (Mem.minus_le M10 (zbj g p b es10))
  refine zR ?_;refine on (hbMe.c1 rfl) ?_;refine zR ?_;refine new (fun b2 hb2=>?_);replace hb2:M10 b2=none:=hb2;have hle6:M10.le (M10.setCells b2 T.zr [.int .i64 (nx+1)]):=Mem.le_setCells hb2
  have hb6:(M10.setCells b2 T.zr [.int .i64 (nx+1)]).has b2 T.zr [.int .i64 (nx+1)]:=Mem.has_setCells;obtain⟨M6,hM6⟩:∃ M6,M6=M10.setCells b2 T.zr [.int .i64 (nx+1)]:=⟨_,rfl⟩
  rw[←hM6] at hle6 hb6;(conv=>whnf)
  erw [←hM6];have hL6:=hL10.to hle6
  refine(zoh hL6 hW10 (zqo hb6)).mono ?_;rintro v M7 ⟨a7,n7,c7,rfl,hn7,hN7⟩
  have hsl7:n7≤64:=by
   have:=hL10.disk.inv.len;rw[hn7];refine Nat.le_trans (List.length_filter_le _ _) ?_;simpa using this
  refine zR ?_;refine(zlc hN7 (by omega)).mono ?_;rintro v M8 ⟨rfl,hN8, -⟩;have hL8:=hL6.to hN8.le
  have hs8:SrcOk (M8.minus (zbj g p b es10)) 1 a7 n7 ((zaW C.1 fun k=>decide ((nx+1)≤k)).reverse.map zaa):=hN8.src.minus fun q hq hb=>hL6.full hb (hN8.block hq).1
  have hz8:=hL10.zle (Mem.le_trans hle6 hN8.le);have hb8:=(hb10.le hz8).le (Mem.minus_le M8 (zbj g p b es10))
  refine zR ?_;refine on (hb8.c1 rfl) ?_;refine zR ?_;refine(zhj hL8.base.1 hs8 (by omega)).mono ?_;rintro v M9 ⟨es9,rfl,h9⟩;refine zR ?_;rw[hO,hE];exact⟨es9,a8,(all++zaN row).length,c8,rfl,h9.mono (Mem.le_trans hM0 hL8.base.2),fun _=>((hA10.up hz8).up (hL8.z h9)).mono hM0⟩
 have e5:¬zae (zaN row)<row.length:=by have:=Zd1 e;omega
 rw[if_neg e5] at hE;refine zR ?_;refine⟨⟨f',nx+1,M8,Dc,ec,nx,a8,c8,all++zaN row⟩,⟨⟨by dsimp only;omega,by dsimp only;omega,by dsimp only;omega⟩,hL8,hb8,hA8,hWc,hE,?_⟩,by dsimp only;omega,zS⟩;dsimp only;rw[List.length_append];omega
end
section
variable {M M0:Mem} {g p b:Nat} {D:zf} {es:FsT}
def L0 (first size:Int):zaE:=⟨first,first,size,false⟩
def zx2 (M0 M':Mem) (p b:Nat) (D:zf) (first size:Int) (v:Value):Prop:=
 ((first<1∨99999<first∨size<16∨1048576<size)∧v = .tuple #[.pointer none,.slice none 0 0,.int .i64 1]∧∃ es',FreshD M0 M' p b D es') ∨
 (¬(first<1∨99999<first∨size<16∨1048576<size)∧D.down=true∧v = .tuple #[.pointer none,.slice none 0 0,.int .i64 9]∧∃ es',FreshD M0 M' p b D es') ∨
 (¬(first<1∨99999<first∨size<16∨1048576<size)∧D.down=false∧(zbP D (L0 first size)).2.2.2≠0∧v = .tuple #[.pointer none,.slice none 0 0,.int .i64 (zbP D (L0 first size)).2.2.2]∧∃ es',FreshD M0 M' p b (zbP D (L0 first size)).1 es') ∨
 (¬(first<1∨99999<first∨size<16∨1048576<size)∧D.down=false∧(zbP D (L0 first size)).2.2.2=0∧∃ g es' a n c,v = .tuple #[ptr g,.slice a n c,.int .i64 0] ∧
  LogAt M0 M' g p b (zbP D (L0 first size)).1 es' (zbP D (L0 first size)).2.1∧AllAt M0 (M'.minus (zbj g p b es')) a n c (zbP D (L0 first size)).2.2.1)
theorem zC2 (h:FreshD M0 M p b D es) (hW:NamesW D) (first size:Int):CallsM Tryz.prog F.zlT [ptr p,.int .i64 first,.int .i64 size] M fun v M'=>zx2 M0 M' p b D first size v:=by
 refine zxc (by simp) ?_;refine zR ?_;refine brn (fun e=>?_) (fun e=>?_)
 ·refine zR ?_;exact .inl ⟨by first|(have:=Zd0 e;omega),rfl,es,h⟩
 have e1:=Zd1 e;refine zR ?_;refine brn (fun e=>?_) (fun e=>?_)
 ·refine zR ?_;exact .inl ⟨by first|(have:=Zd0 e;omega),rfl,es,h⟩
 have e2:=Zd1 e;refine zR ?_;refine brn (fun e=>?_) (fun e=>?_)
 ·refine zR ?_;exact .inl ⟨by first|(have:=Zd0 e;omega),rfl,es,h⟩
 have e3:=Zd1 e;refine zR ?_;refine brn (fun e=>?_) (fun e=>?_)
 ·refine zR ?_;exact .inl ⟨by first|(have:=Zd0 e;omega),rfl,es,h⟩
 have e4:=Zd1 e;have hn:¬(first<1∨99999<first∨size<16∨1048576<size):=by omega
 refine zR ?_;refine(zme h).mono ?_;rintro v _ ⟨rfl,rfl⟩;cases hd:D.down
 case true=>
  refine zR ?_;exact .inr (.inl ⟨hn,hd,rfl,es,h⟩)
 refine zR ?_;refine new (fun g hg=>?_);replace hg:M g=none:=hg;have hle1:M.le (M.setCells g T.zcn (zf3 p (L0 first size))):=Mem.le_setCells hg
 have hs1:(M.setCells g T.zcn (zf3 p (L0 first size))).has g T.zcn (zf3 p (L0 first size)):=Mem.has_setCells;obtain⟨M1,hM1⟩:∃ M1,M1=M.setCells g T.zcn (zf3 p (L0 first size)):=⟨_,rfl⟩
 rw[←hM1] at hle1 hs1;(conv=>whnf)
 erw [←hM1]
 have h1:LogAt M0 M1 g p b D es (L0 first size):=⟨h.to hle1,hs1,by
  cases e:M0 g with
  | none=>rfl
  | some o=>rw[h.le _ _ e] at hg;cases hg⟩
 refine(zBB h1 hW (by show 1≤first∧first≤99999;omega) rfl).mono ?_;rintro v M2 ⟨es2,a,n,c,rfl,h2,hA⟩;(conv=>whnf);refine brn (fun e=>?_) (fun e=>?_)
 ·have e5:(zbP D (L0 first size)).2.2.2≠0:=by simpa using e
  refine zR ?_;exact .inr (.inr (.inl ⟨hn,hd,e5,rfl,es2,h2.disk⟩))
 ·have e5:(zbP D (L0 first size)).2.2.2=0:=by simpa using e
  refine zR ?_;exact .inr (.inr (.inr ⟨hn,hd,e5,g,es2,a,n,c,rfl,h2,hA e5⟩))
theorem wlL {D:zf} (h:InvD D) (k:Int):zc8 D k≤1048576:=by
 have hu:=h.used
 have key:∀ s,(zas D s).1.size≤zaX D.l:=fun s=>by
  unfold zas;split
  ·exact Nat.zero_le _
  ·rename_i g;have h1:=(zbR (by simpa using g)).2
   have:=(zbs h.sort h1).2;rw[all_size];omega
 unfold zc8;split
 ·unfold zgx;split
  ·rename_i f hf;have:=(zbs h.sort hf).2
   omega
  ·omega
 ·have:=key (zc k);omega
theorem zE7 {M:Mem} {b1:Nat} (hb1:M b1=none) (x:UInt8):M.le ((M.setCells b1 T.zn [zl x]).upd b1 (.cells [zl x].toArray T.zn (1,2))) ∧
  SrcOk ((M.setCells b1 T.zn [zl x]).upd b1 (.cells [zl x].toArray T.zn (1,2))) 1 (some ⟨b1,0,none⟩) 1 ([x].map zl):=by
 refine⟨fun c o hc=>?_,?_⟩
 ·have hne:c≠b1:=fun e=>by subst e;rw[hb1] at hc;cases hc
  unfold Mem.setCells;rw[Mem.upd_ne _ _ hne,Mem.upd_ne _ _ hne];exact hc
 ·unfold SrcOk;exact⟨rfl,.inr ⟨b1,0,rfl,Mem.row_obj (Mem.upd_same _ _ _) (by simp)⟩⟩
end
section
variable {M M0:Mem} {p b:Nat} {D:zf} {es:FsT}
def zt (k:Int):ByteArray:=if k<1∨99999<k then ByteArray.empty else ⟨#[115]⟩++zf2 k
theorem zcT {k:Int} (h:¬(k<1∨99999<k)):zt k=⟨#[115,dgB k 4,dgB k 3,dgB k 2,dgB k 1,dgB k 0]⟩:=by
 unfold zt;rw[if_neg h];rfl
theorem zmf {k:Int} (h:¬(k<1∨99999<k)):zfu (zt k):=by
 right;rw[zcT h];simp[ByteArray.toList,ByteArray.toList.loop,ByteArray.size,ByteArray.get!]
theorem zBC:zfu ⟨#[116]⟩ := .inl (by decide)
theorem zjT (k:Int):CallsM Tryz.prog F.zdi [.int .i64 k] M fun v M'=>v = .string (zt k)∧M.le M':=by
 refine zrc (by simp) ?_;refine zR ?_;refine(zei k).mono ?_;rintro v M1 ⟨rfl,hle1⟩;by_cases hk:k<1∨99999<k
 ·have e1:zc k=ByteArray.empty:=by unfold zc;rw[if_pos hk]
  have e2:zt k=ByteArray.empty:=by unfold zt;rw[if_pos hk]
  rw[e1,e2];(conv=>whnf);refine brn_f rfl ?_;refine zR ?_;exact⟨rfl,hle1⟩
 ·have e1:zc k=zhQ k:=zfD hk;have e2:zt k=⟨#[115]⟩++zf2 k:=by unfold zt;rw[if_neg hk]
  rw[e1,e2];have hne:¬zhQ k=ByteArray.empty:=fun h=>by have:=congrArg ByteArray.size h;exact absurd this (by show ¬(6:Nat)=0;decide)
  (conv=>whnf);refine brn_t (by simp[hne]) ?_;refine zR ?_;refine ob (by show (0:Int)≤1∧(1:Int)≤((6:Nat):Int)∧((6:Nat):Int)≤((6:Nat):Int);decide) ?_;have htl:(zhQ k).extract (1:Int).toNat (((zhQ k).size:Nat):Int).toNat=zf2 k:=rfl
  (conv=>whnf);rw[htl];(conv=>whnf);refine ob (by show (1:Nat)+5≤_;decide) ?_;refine zR ?_;exact⟨rfl,hle1⟩
theorem zAx {c:Nat} {T0:TypeId} {cs:List Value} (hc:M.has c T0 cs) (hd:cs[1]? = some (ptr p)) (h:FreshD M0 M p b D es) (s:ByteArray):CallsM Tryz.prog F.zcH [ptr c,.string s] M fun v M'=>v = .bool (D.l.any fun f=>decide (f.name=s))∧M.le M':=by
 refine zk7 (by simp) ?_;refine zR ?_;refine on (hc.c1 hd) ?_;refine zR ?_;refine(zjQ h.at' h.rel h.inv).mono ?_;rintro v M1 ⟨na,nc,rfl,hNm⟩;have hln:=h.inv.len
 refine zR ?_;refine zdc (σ:=Nat) [13] (fun i=>[(13,.int .i64 i)]) (fun i=>i≤D.l.length∧(D.l.take i).any (fun f=>decide (f.name=s))=false) (fun i=>D.l.length - i) 0 ⟨by omega,by simp⟩ zS ?_;rintro i ⟨hi,hall⟩;(conv=>whnf);refine brn (fun e=>?_) (fun e=>?_)
 ·have hlt:i<D.l.length:=by have:=Zd0 e;omega
  obtain⟨hk1,b1,o1,e1,hr1⟩:=hNm.src.at (i:=i) hlt;have hnm:(D.l.map (·.name))[i]=D.l[i].name:=by simp
  rw[hnm] at hr1
  have htk:(D.l.take (i+1)).any (fun f=>decide (f.name=s))=decide (D.l[i].name=s):=by
   rw[List.take_add_one,List.getElem?_eq_getElem hlt,List.any_append,hall];simp
  have hmem:D.l[i]∈D.l:=List.getElem_mem hlt;generalize D.l[i]=f at *;(conv=>whnf);refine ob (by first|omega|(dsimp only;omega)) ?_;(conv=>whnf);refine atp e1 ?_;(conv=>whnf);refine on hr1 ?_;(conv=>whnf);refine brn (fun g=>?_) (fun g=>?_)
  ·refine zR ?_;refine⟨?_,hNm.le⟩;congr 1;rw[eq_comm,List.any_eq_true];exact⟨f,hmem,g⟩
  ·refine zR ?_;refine ob (zd (by first|omega|(dsimp only;omega))) ?_;(conv=>whnf)
   exact⟨i+1,⟨by omega,by rw[htk];exact g⟩,by omega,zS⟩
 ·have hge:i=D.l.length:=by have:=Zd1 e;omega
  rw[hge,List.take_length] at hall;refine zR ?_;exact⟨by rw[hall],hNm.le⟩
end
section
variable {M M0:Mem} {p b:Nat} {D:zf} {es:FsT}
theorem zmg {k:Int} (h:¬(k<1∨99999<k)):(((zt k).toList.getD 0 0).toNat:Int)=115:=by
 rw[zcT h];simp[ByteArray.toList,ByteArray.toList.loop,ByteArray.size,ByteArray.get!]
def NamesC (D:zf):Prop:=∀ f∈D.l,(∃ k:Int,¬(k<1∨99999<k)∧f.name=zc k)∨(∃ k:Int,¬(k<1∨99999<k)∧f.name=zt k)∨f.name=⟨#[116]⟩
theorem NamesC.w (h:NamesC D):NamesW D:=fun f hf=>by
 rcases h f hf with h1|⟨k,h1,h2⟩|h1
 ·exact .inl h1
 ·exact .inr (h2▸zmf h1)
 ·exact .inr (h1▸zBC)
def zfv (s:ByteArray):Int:=if s.size=6∧((s.toList.getD 0 0).toNat:Int)=115 then ((bl s).drop 1).foldl (fun a c=>10*a+((c.toNat:Int) - 48)) 0 else 0
theorem zhk {k:Int} (h:¬(k<1∨99999<k)):zfv (zt k)=k:=by
 have h1:zfv (zt k)=((bl (zt k)).drop 1).foldl (fun a c=>10*a+((c.toNat:Int) - 48)) 0:=if_pos ⟨by rw[zcT h];rfl,zmg h⟩;have h2:=zbU h
 rw[zfD h,zbI,if_pos ⟨rfl,by rw[ziY];rfl⟩] at h2;rw[h1,zcT h];exact h2
theorem zv6 {s:ByteArray} (h:s.size≠6∨((s.toList.getD 0 0).toNat:Int)≠115):zfv s=0:=if_neg fun ⟨a,b⟩=>h.elim (fun h=>h a) fun h=>h b
def zci (D:zf):List Int:=(D.l.map fun f=>zfv f.name).filter fun k=>decide (0<k)
theorem NamesC.num (h:NamesC D) {f:FileR} (hf:f∈D.l):(∃ k:Int,¬(k<1∨99999<k)∧f.name=zt k∧zfv f.name=k)∨((f.name.size≠6∨((f.name.toList.getD 0 0).toNat:Int)≠115)∧zfv f.name=0):=by
 rcases h f hf with ⟨k,h1,h2⟩|⟨k,h1,h2⟩|h1
 ·have:f.name.size≠6∨((f.name.toList.getD 0 0).toNat:Int)≠115 := .inr (by rw[h2,zfD h1,ziY];decide);exact .inr ⟨this,zv6 this⟩
 ·exact .inl ⟨k,h1,h2,by rw[h2,zhk h1]⟩
 ·have:f.name.size≠6∨((f.name.toList.getD 0 0).toNat:Int)≠115 := .inl (by rw[h1];decide);exact .inr ⟨this,zv6 this⟩
set_option maxRecDepth 10000 in
theorem zv7 {c:Nat} {T0:TypeId} {cs:List Value} (hc:M.has c T0 cs) (hd:cs[1]? = some (ptr p)) (h:FreshD M0 M p b D es) (hW:NamesC D) :
  CallsM Tryz.prog F.zeg [ptr c] M fun v M'=>∃ a n cc,v = .slice a n cc∧n=(zci D).length∧NewSl M T.zr 1 a n cc ((zci D).map zaa) M':=by
 refine zjI (by simp) ?_;refine zR ?_;refine on (hc.c1 hd) ?_;refine zR ?_;refine(zjQ h.at' h.rel h.inv).mono ?_;rintro v M1 ⟨na,nc,rfl,hNm⟩;have hln:=h.inv.len
 refine zR ?_
 refine za6 (σ:=Nat×Mem×Option Addr×Nat×List Int) [15,3] (fun y=>[(15,.int .i64 y.1),(3,.slice y.2.2.1 y.2.2.2.2.length y.2.2.2.1)]) (fun _=>[]) (fun y=>y.2.1)
  (fun|⟨i,Mc,a,c,out⟩=>i≤D.l.length∧NewSl M1 T.zr 1 a out.length c (out.map zaa) Mc∧out=((D.l.take i).map fun f=>zfv f.name).filter (fun k=>decide (0<k))∧out.length≤i) (fun y=>D.l.length - y.1) ⟨0,M1,none,0,[]⟩ ⟨by omega,NewSl.none M1 T.zr 1,by simp,by simp⟩ zS ?_
 rintro ⟨i,Mc,a,c,out⟩ ⟨hi,hN,hout,hol⟩;(conv=>whnf);refine brn (fun e=>?_) (fun e=>?_)
 ·have hlt:i<D.l.length:=by have:=Zd0 e;dsimp only at this;omega
  obtain⟨hk1,b1,o1,e1,hr1⟩:=(hNm.src.le hN.le).at (i:=i) hlt;have hx:D.l[i]? = some D.l[i]:=List.getElem?_eq_getElem hlt
  have hnm:(D.l.map (·.name))[i]=D.l[i].name:=by simp
  rw[hnm] at hr1;have hnum:=hW.num (List.mem_of_getElem? hx)
  have htk:((D.l.take (i+1)).map fun f=>zfv f.name).filter (fun k=>decide (0<k))=((D.l.take i).map fun f=>zfv f.name).filter (fun k=>decide (0<k))++(if decide (0<zfv D.l[i].name)=true then [zfv D.l[i].name] else []):=by
   rw[List.take_add_one,hx,List.map_append,List.filter_append];congr 1;cases hpk:decide (0<zfv D.l[i].name)<;>simp[hpk]
  generalize D.l[i]=f at *;rcases hnum with ⟨k,hk,hnn,hkk⟩|⟨hno,hn0⟩
  rotate_left
  ·rw[hn0,if_neg (by simp),List.append_nil] at htk;(conv=>whnf);refine ob (by first|omega|(dsimp only;omega)) ?_;(conv=>whnf);refine atp e1 ?_;(conv=>whnf);refine on hr1 ?_;(conv=>whnf);refine brn (fun g=>?_) (fun g=>?_)
   ·refine zR ?_;refine ob (zd (by first|omega|(dsimp only;omega))) ?_;(conv=>whnf)
    exact⟨⟨i+1,Mc,a,c,out⟩,⟨by omega,hN,by rw[htk,hout],by omega⟩,by dsimp only;omega,zS⟩
   ·have g1:f.name.size=6:=by have:(f.name.size:Int)=6:=by simpa using g
                              omega
    (conv=>whnf);refine ob (by rw[g1];decide) ?_;(conv=>whnf);refine brn_t (by rcases hno with h|h<;>simp_all) ?_;refine zR ?_;refine ob (zd (by first|omega|(dsimp only;omega))) ?_;(conv=>whnf)
    exact⟨⟨i+1,Mc,a,c,out⟩,⟨by omega,hN,by rw[htk,hout],by omega⟩,by dsimp only;omega,zS⟩
  have hkp:decide (0<k)=true:=decide_eq_true (by omega);rw[hkk,hkp,if_pos rfl] at htk;rw[hnn,zcT hk] at hr1;(conv=>whnf);refine ob (by first|omega|(dsimp only;omega)) ?_;(conv=>whnf);refine atp e1 ?_;(conv=>whnf);refine on hr1 ?_;have hhd:(((⟨#[115,dgB k 4,dgB k 3,dgB k 2,dgB k 1,dgB k 0]⟩:ByteArray).toList.getD 0 0).toNat:Int)=115:=by rw[←zcT hk];exact zmg hk
  have hnn0:0≤k:=by omega
  have hdlt:∀ j,(dgB k j).toNat<128:=fun j=>by have:=zbx hnn0 j;omega
  have htl:(⟨#[115,dgB k 4,dgB k 3,dgB k 2,dgB k 1,dgB k 0]⟩:ByteArray).extract (1:Int).toNat ((((⟨#[115,dgB k 4,dgB k 3,dgB k 2,dgB k 1,dgB k 0]⟩:ByteArray).size:Nat):Int)).toNat=zf2 k:=rfl;(conv=>whnf);refine brn_f (by show (!decide (((6:Nat):Int)=6))=false;decide) ?_;(conv=>whnf);refine ob (by show (0:Int)≤0∧(0:Int)<((6:Nat):Int);decide) ?_;(conv=>whnf);refine brn_f (by show (!decide ((((⟨#[115,dgB k 4,dgB k 3,dgB k 2,dgB k 1,dgB k 0]⟩:ByteArray).toList.getD 0 0).toNat:Int)=115))=false;rw[hhd];decide) ?_;(conv=>whnf);refine ob (by show (0:Int)≤1∧(1:Int)≤((6:Nat):Int)∧((6:Nat):Int)≤((6:Nat):Int);decide) ?_;(conv=>whnf);refine new (fun b2 hb2=>?_);replace hb2:Mc b2=none:=hb2;(conv=>whnf)
  refine za6 (σ:=Nat) [6] (fun j=>[(6,.int .i64 (zdA k j))]) (fun _=>[]) (fun j=>Mc.upd b2 (.stringIter (zf2 k) j)) (fun j=>j≤5) (fun j=>5 - j) 0 (by omega) zS ?_;intro j hj;have hsit:(Mc.upd b2 (.stringIter (zf2 k) j)).sitAt b2=some (zf2 k,j):=by simp[Mem.sitAt,Mem.upd]
  (conv=>whnf);refine on hsit ?_;(conv=>whnf);refine⟨fun hlt5=>⟨?_,?_⟩,fun hno=>?_⟩
  ·have hi5:j<5:=hlt5
   match j,hi5 with
   | 0,_=>exact hdlt 4
   | 1,_=>exact hdlt 3
   | 2,_=>exact hdlt 2
   | 3,_=>exact hdlt 1
   | 4,_=>exact hdlt 0
  ·have hi5:j<5:=hlt5;have hb:48≤((dgB k (4 - j)).toNat:Int)∧((dgB k (4 - j)).toNat:Int)≤57:=by have:=zbx hnn0 (4 - j);omega
   have ha:0≤zdA k j∧zdA k j≤99999:=by
    obtain⟨c1,c2,c3,c4,c5⟩:=zmb hnn0 (by omega)
    match j,hi5 with
    | 0,_=>show (0:Int)≤0∧(0:Int)≤99999;omega
    | 1,_=>omega
    | 2,_=>omega
    | 3,_=>omega
    | 4,_=>omega
   have hget:((zf2 k).get! j)=dgB k (4 - j):=by
    match j,hi5 with
    | 0,_=>rfl
    | 1,_=>rfl
    | 2,_=>rfl
    | 3,_=>rfl
    | 4,_=>rfl
   rw[hget];(conv=>whnf);refine brn_t rfl ?_;(conv=>whnf);refine ob (zd (by omega)) ?_;(conv=>whnf);refine ob (zxZ (by omega)) ?_;(conv=>whnf);refine ob (zd (by rw[zma (by omega)];omega)) ?_;(conv=>whnf)
   refine⟨j+1,by omega,by omega,?_⟩;refine⟨(by repeat' first|exact True.intro|refine⟨rfl,?_⟩),(by repeat' first|exact True.intro|refine⟨rfl,?_⟩),?_,rfl⟩;dsimp only;rw[Mem.upd_upd];exact Mem.le_refl _
  ·have hi5:j=5:=by have:¬j<5:=hno;omega
   subst hi5;obtain⟨-, -, -, -, c5⟩:=zmb hnn0 (by omega);(conv=>whnf);refine brn_f rfl ?_;refine zR ?_;rw[c5];refine(zjT k).mono ?_;rintro v M3 ⟨rfl,hle3⟩;rw[zcT hk];(conv=>whnf);refine brn_t (by simp) ?_;have hN3:=(hN.up (Mem.le_upd hb2)).up hle3
   refine zR ?_;refine ze6 M1 _ hN3 (by first|omega|(dsimp only;omega)) (by simp[maxLen];omega) (by simp[Value.oneCell']) fun a4 c4 M4 hN4=>?_
   (conv=>whnf);refine ob (zd (by first|omega|(dsimp only;omega))) ?_;(conv=>whnf)
   refine⟨⟨i+1,M4,a4,c4,out++[k]⟩,⟨by omega,by simpa using hN4,by rw[htk,hout],by simp;omega⟩,by dsimp only;omega,?_⟩;rw[List.length_append];exact zS
 ·have hge:i=D.l.length:=by have:=Zd1 e;dsimp only at this;omega
  subst hge;rw[List.take_length] at hout;refine zR ?_;exact⟨a,out.length,c,rfl,by rw[hout];rfl,by rw[show zci D=out from hout.symm];exact hN.mono hNm.le⟩
end
section
variable {M M0:Mem} {p b:Nat} {D:zf} {es:FsT}
structure CuW where
 snap:Int
 failed:Bool
 spent:Bool
@[reducible] def zeR (sp p:Nat) (g:Value) (W:CuW):List Value:=[ptr sp,ptr p,g,.int .i64 W.snap,.bool W.failed,.bool W.spent]
def zgy (W:CuW) (e:Int):CuW:={ W with failed:=W.failed||decide (e=9) }
theorem znX {c sp:Nat} {g:Value} {W:CuW} (h:M.has c T.zP (zeR sp p g W)):CallsM Tryz.prog F.zcg [ptr c] M fun v M'=>v = .int .i64 (if W.failed=true then 7 else 0)∧M=M':=by
 refine zjH (by simp) ?_;obtain⟨sn,fl,sp2⟩:=W;cases fl
 ·refine zR ?_;refine on (h.c1 (o:=4) rfl) ?_;refine zR ?_;exact⟨rfl,rfl⟩
 ·refine zR ?_;refine on (h.c1 (o:=4) rfl) ?_;refine zR ?_;exact⟨rfl,rfl⟩
theorem zBD {c sp:Nat} {g:Value} {W:CuW} (h:M.has c T.zP (zeR sp p g W)) (e:Int):CallsM Tryz.prog F.zbk [ptr c,.int .i64 e] M fun v M'=>v = .int .i64 e∧M'=M.setCells c T.zP (zeR sp p g (zgy W e)):=by
 refine zki (by simp) ?_;obtain⟨sn,fl,sp2⟩:=W;cases fl
 ·refine zR ?_;refine on (h.c1 (o:=4) rfl) ?_;refine zR ?_;refine on h.cells ?_;(conv=>whnf);refine ob (by simp) ?_;refine zR ?_;exact⟨rfl,rfl⟩
 ·refine zR ?_;refine on (h.c1 (o:=4) rfl) ?_;refine zR ?_;refine on h.cells ?_;(conv=>whnf);refine ob (by simp) ?_;refine zR ?_;exact⟨rfl,rfl⟩
def zbH (D:zf):zf×Int:=if (D.l.any fun f=>decide (f.name=⟨#[116]⟩))=true then zC D ⟨#[116]⟩ else (D,0)
end
end Go.Proofs.YtpdkkbpkplhdpaaGreat
namespace Go.Proofs.YtpdkkbpkplhdpaaGreat
open Go Go.Vm
section
variable {D:zf} {L:zaE} {last:Int} {l:List FileR} {put:List (List UInt8)} {safe:Nat}
def CurI (l:List FileR) (last:Int) (parts cur:List (List UInt8)) (safe:Nat):Prop:=
 (zg l (zc last)=none∧cur=[]∧safe≤parts.length)∨∃ s t j,zg l (zc last)=some ⟨zc last,s,t⟩∧bl s++bl t=zbi cur∧j≤cur.length∧zae (cur.take j)≤s.size∧safe≤parts.length+j
structure zFs (last:Int) (l:List FileR) (put:List (List UInt8)) (safe:Nat):Prop where
 ok:∀ q∈put,zcS q
 last1:1≤last∧last≤99999
 names:∀ f∈l,∃ k:Int,1≤k∧k≤last∧f.name=zc k
 seg:∃ (parts:List (List (List UInt8))) (cur:List (List UInt8)),(parts.length:Int)+1=last∧put=parts.flatten++cur ∧
  (∀ (i:Nat) q,parts[i]? = some q→∃ s:ByteArray,zg l (zc ((i:Int)+1))=some ⟨zc ((i:Int)+1),s,.empty⟩∧bl s=zbi q)∧CurI l last parts.flatten cur safe
theorem zje {j k:Int} (hj:1≤j∧j≤99999) (hk:1≤k∧k≤99999) (h:j≠k):zc j≠zc k:=fun e=>h (zjS (by omega) (by omega) e)
theorem zcC:bl .empty=[]:=rfl
theorem ztl {b:ByteArray} (h:b.size=0):b = .empty:=zjN (by rw[zcC];exact List.eq_nil_of_length_eq_zero (by rw[zaH];exact h))
theorem CurI.le {parts cur:List (List UInt8)} {safe':Nat} (h:CurI l last parts cur safe) (hle:safe'≤safe):CurI l last parts cur safe':=by
 rcases h with ⟨h1,h2,h3⟩|⟨s,t,j,h1,h2,h3,h4,h5⟩
 ·exact .inl ⟨h1,h2,by omega⟩
 ·exact .inr ⟨s,t,j,h1,h2,h3,h4,by omega⟩
def zuN (l:List FileR) (last:Int):Prop:=∀ f,zg l (zc last)=some f→f.tail = .empty
theorem zi0 {D:zf} {s:ByteArray} (hd:D.down=false) (hn:zbd s=true):(zas D s).1=match zg D.l s with|some f=>f.all|none => .empty:=by
 have hr:zaA D s=if zg D.l s=none then 4 else 0:=by unfold zaA z8;simp[hd,hn]
 unfold zas;rw[hr];cases hf:zg D.l s with
 | none=>simp
 | some f=>simp[zx,hf]
theorem zce {k:Int} (h:1≤k∧k≤99999):zbd (zc k)=true:=by
 have hn:¬(k<1∨99999<k):=by omega
 rw[zfD hn];have hnn:0≤k:=by omega
 have d0:=zbx hnn 0;have d1:=zbx hnn 1
 have d2:=zbx hnn 2;have d3:=zbx hnn 3
 have d4:=zbx hnn 4;unfold zbd;rw[Bool.and_eq_true,List.all_eq_true];refine⟨rfl,fun c hc=>?_⟩;have hc':c∈[119,dgB k 4,dgB k 3,dgB k 2,dgB k 1,dgB k 0]:=hc
 simp only[List.mem_cons,List.not_mem_nil,or_false] at hc';apply decide_eq_true;rcases hc' with rfl|rfl|rfl|rfl|rfl|rfl
 ·right;right;decide
 all_goals right;left;omega
theorem zAy (D:zf) (L:zaE):(syncL D L).2.1.last=L.last:=(ziZ D L).1
end
section
variable {D:zf} {L:zaE} {last:Int} {l:List FileR} {put:List (List UInt8)} {safe:Nat}
theorem zAz (h:InvD D) (L:zaE):InvD (syncL D L).1:=by
 unfold syncL;repeat' split
 all_goals first|exact h|exact znT h _
theorem zzf (h:InvD D) (L:zaE):InvD (beginL D L).1:=by
 unfold beginL;repeat' split
 all_goals exact zAz h L
theorem zAA {q:List UInt8} (h:¬zgf q≠0):zcS q:=by
 unfold zgf at h;unfold zcS;split at h
 ·simp at h
 ·split at h
  ·simp at h
  ·omega
theorem zzg (hi:InvD D) (keep:List Int) {n:ByteArray} {f:FileR} (h:zg D.l n=some f):∃ i,zg (zbK D keep).l n=some (zdI keep i f):=by
 obtain⟨h1,h2⟩:=(zaz hi.sort).1 h;obtain⟨i,hlt,he⟩:=List.getElem_of_mem h1;refine⟨i,(zaz (zmd hi keep).sort).2 ⟨?_,h2⟩⟩
 have:(zbK D keep).l[i]? = some (zdI keep i f):=by
  unfold zbK;dsimp only;rw[List.getElem?_mapIdx,List.getElem?_eq_getElem hlt,he];rfl
 exact List.mem_of_getElem? this
theorem zzh (keep:List Int) {n:ByteArray} (h:zg D.l n=none):zg (zbK D keep).l n=none:=by
 rw[findR_none] at h ⊢;intro f hf e;have hn:=zhi (D:=D) keep
 have:f.name∈D.l.map (·.name):=by rw[←hn];exact List.mem_map.2 ⟨f,hf,rfl⟩
 obtain⟨f',hf',e2⟩:=List.mem_map.1 this;exact h f' hf' (by rw[e2,e])
theorem zeI {D:zf} {s:ByteArray} {f:FileR} (hd:D.down=false) (hn:zbd s=true) (hf:zg D.l s=some f):zas D s=(f.all,0)∧zaA D s=0∧zx D s=f:=by
 have hr:zaA D s=0:=by unfold zaA z8;simp[hd,hn,hf]
 have hfi:zx D s=f:=by unfold zx;rw[hf];rfl
 refine⟨?_,hr,hfi⟩;unfold zas;rw[if_neg (by simp[hr]),hfi]
theorem ztm {D:zf} {s:ByteArray} (hd:D.down=false) (hn:zbd s=true) (hf:zg D.l s=none):(zas D s).2=4:=by
 have hr:zaA D s=4:=by unfold zaA z8;simp[hd,hn,hf]
 unfold zas;rw[if_pos (by rw[hr];decide),hr]
theorem zpi {α:Type} {p:α→Bool}:∀ {l:List α},(∀ x∈l,p x=false)→l.filter p=[]
 | [],_=>rfl
 | x::l,h=>by rw[List.filter_cons,if_neg (by rw[h x (by simp)];simp),zpi fun y hy=>h y (by simp[hy])]
theorem zAB {D:zf} {pick:Int→Bool} (h:∀ f∈D.l,0<zbI f.name→pick (zbI f.name)=false):zaW D pick=[]:=by
 unfold zaW;refine zpi fun x hx=>?_
 obtain⟨f,hf,rfl⟩:=List.mem_map.1 hx;by_cases h0:0<zbI f.name
 ·rw[h f hf h0,Bool.and_false]
 ·rw[decide_eq_false h0,Bool.false_and]
end
section
variable {D E:zf}
structure PowW (D:zf):Prop where
 inv:InvD D
 nm:NamesW D
 down:D.down=false
 left:D.left = -1
def okK (k:Int):Prop:=1≤k∧k≤99999
theorem PowW.read (h:PowW D) {k:Int} (hk:okK k) {f:FileR} (hf:zg D.l (zc k)=some f):zas D (zc k)=(f.all,0)∧zaA D (zc k)=0∧zx D (zc k)=f:=zeI h.down (zce hk) hf
theorem zhR (h:PowW D) (l:List FileR):zbh D l=⟨D.limit,l, -1,false⟩:=by unfold zbh;rw[h.left];rfl
theorem PowW.cut (h:PowW D) {k:Int} (hk:okK k) {f:FileR} (hf:zg D.l (zc k)=some f) {m:Nat} (hm:m≤f.all.size) :
  (zcB D (zc k) m).2=0∧PowW (zcB D (zc k) m).1∧∀ n,zg (zcB D (zc k) m).1.l n=if n=zc k then some ⟨zc k,f.all.extract 0 m,.empty⟩ else zg D.l n:=by
 obtain⟨-, h2,h3⟩:=h.read hk hf
 have e:zcB D (zc k) m=(zbh D (zaO D.l ⟨zc k,f.all.extract 0 m,.empty⟩),0):=by
  unfold zcB;rw[if_neg (by simp[h2]),h3,if_neg (by omega)];rfl
 have hi:=zv3 h.inv (zc k) (m:Int);have hn:=h.nm.cut k (m:Int)
 rw[e] at hi hn ⊢;refine⟨rfl,⟨hi,hn,by rw[zhR h],by rw[zhR h]⟩,fun n=>?_⟩;exact zcQ h.inv.sort _ n
theorem PowW.remove (h:PowW D) {k:Int} (hk:okK k) {f:FileR} (hf:zg D.l (zc k)=some f) :
  (zC D (zc k)).2=0∧PowW (zC D (zc k)).1∧∀ n,zg (zC D (zc k)).1.l n=if n=zc k then none else zg D.l n:=by
 obtain⟨-, h2, -⟩:=h.read hk hf;have e:zC D (zc k)=(zbh D (zar D.l (zc k)),0):=by unfold zC;rw[if_neg (by simp[h2])]
 have hi:=zeH h.inv (zc k);have hn:=h.nm.remove (zc k)
 rw[e] at hi hn ⊢;refine⟨rfl,⟨hi,hn,by rw[zhR h],by rw[zhR h]⟩,fun n=>?_⟩;exact zfj h.inv.sort _ n
theorem zmh {j k:Int} (hj:okK j) (hk:okK k):zc j=zc k↔j=k:=⟨fun e=>zjS (by unfold okK at hj;omega) (by unfold okK at hk;omega) e,fun e=>by rw[e]⟩
theorem zmM:∀ {ks:List Int} {D:zf},PowW D→ks.Nodup→(∀ k∈ks,okK k∧∃ f,zg D.l (zc k)=some f) →
  (removeAll D ks).2=0∧PowW (removeAll D ks).1∧∀ k,okK k→zg (removeAll D ks).1.l (zc k)=if k∈ks then none else zg D.l (zc k)
 | [],D,h,_,_=>⟨rfl,h,fun k _=>by simp[removeAll]⟩
 | k::r,D,h,hn,hk=>by
  obtain⟨h1,f,h2⟩:=hk k (by simp);obtain⟨g1,g2,g3⟩:=h.remove h1 h2;rw[List.nodup_cons] at hn;rw[removeAll,if_neg (by simp[g1])]
  obtain⟨a1,a2,a3⟩:=zmM g2 hn.2 fun j hj=>by
   obtain⟨b1,f2,b2⟩:=hk j (by simp[hj]);refine⟨b1,f2,?_⟩;have hne:¬zc j=zc k:=fun e=>hn.1 ((zmh b1 h1).1 e▸hj)
   rw[g3,if_neg hne];exact b2
  refine⟨a1,a2,fun j hj=>?_⟩;rw[a3 j hj];have g:=g3 (zc j)
  by_cases e:j=k
  ·rw[if_pos (congrArg zc e)] at g;rw[g,e];simp
  ·have hne:¬zc j=zc k:=fun q=>e ((zmh hj h1).1 q)
   rw[if_neg hne] at g;by_cases e2:j∈r
   ·rw[if_pos e2,if_pos (by simp[e2])]
   ·rw[if_neg e2,if_neg (by simp[e,e2]),g]
theorem zrD (h:PowW D) (pick:Int→Bool):(zaW D pick).Nodup:=by
 have h1:(D.l.map fun f=>zbI f.name).Pairwise fun a b=>a≠b∨a≤0:=by
  rw[List.pairwise_map];refine List.Pairwise.imp_of_mem (fun {x y} hx hy hxy=>?_) h.inv.sort;rcases h.nm.num hx with ⟨-, h1⟩|⟨-, h1⟩
  ·rcases h.nm.num hy with ⟨h4,h2⟩|⟨-, h2⟩
   ·refine .inl fun e=>?_
    rw[h1,h2,e,zcP] at hxy;cases hxy
   ·by_cases h0:zbI x.name≤0
    ·exact .inr h0
    ·exact .inl (by omega)
  ·exact .inr (by omega)
 unfold zaW List.Nodup;refine List.Pairwise.imp_of_mem (fun {x y} hx hy hxy=>?_) (h1.filter _);rw[List.mem_filter] at hx
 have h0:0<x:=by
  have:=hx.2;simp only[Bool.and_eq_true,decide_eq_true_eq] at this;exact this.1
 rcases hxy with h2|h2
 ·exact h2
 ·omega
end
end Go.Proofs.YtpdkkbpkplhdpaaGreat
