/- CustodyRefuses: what is zxS changes no state,neither at once nor behind a crash: for every call of bulk at most 1048576 the law returns true,and the call reads as before. -/
import Derived.Test.YtpdkkbpkplhdpaaGreatJ29
import Derived.Test.YtpdkkbpkplhdpaaGreatJ27
namespace Go.Proofs.YtpdkkbpkplhdpaaGreat
open Go Go.Vm
variable {D:zd} {C:CuR} {R:zdP} {E0 E1:List EvX} {s n:Nat} {P:Par}
theorem Cnt.more {last:Int} {m n':Nat} (h:Cnt n D last m) (hn:n≤n'):Cnt n' D last m:=⟨by have:=h.files;omega,by have:=h.used;omega,by have:=h.last;omega,by have:=h.evs;omega,h.lim⟩
theorem LiveI.more {n':Nat} (h:LiveI P n C E0 E1 s) (hn:n≤n'):LiveI P n' C E0 E1 s:=⟨⟨h.rc,h.cnt.more hn,h.X,h.up,h.first,h.lg,h.own⟩,h.cur⟩
def LiveP (P:Par) (n:Nat) (R:zdP):Prop:=∃ E0 E1 s,LiveI P n R.C E0 E1 s∧R.evs=E0++E1∧R.safe≤((E0.length+s:Nat):Int)
def DeadP (P:Par) (n:Nat) (R:zdP):Prop:=R.C.w.failed=true∧R.C.X.sn.length≤n∧R.evs.length≤n∧∃ E0 E1 s rest,RecD P n R.C.D E0 E1 s∧R.evs=E0++E1++rest∧R.safe≤((E0.length+s:Nat):Int)
def RunP (P:Par) (n:Nat) (R:zdP):Prop:=LiveP P n R∨DeadP P n R
theorem RunP.len (h:RunP P n R):R.evs.length≤n∧R.C.X.sn.length≤n:=by
 rcases h with ⟨E0,E1,s,h1,h2, -⟩|⟨_,h1,h2,_⟩
 ·exact ⟨by rw [h2];exact h1.cnt.evs,h1.evs.2.1⟩
 ·exact ⟨h2,h1⟩
theorem LiveP.more (h:LiveP P n R):LiveP P (n+1) R:=by
 obtain ⟨E0,E1,s,h1,h2⟩:=h
 exact ⟨E0,E1,s,h1.more (by omega),h2⟩
theorem zn4 (R:zdP) (e:EvX) {k:Int} (h:k≠0∧k≠9) (s:Bool):zeQ R e k s=R:=by unfold zeQ;rw [if_pos h]
theorem LiveP.put (h:LiveP P n R) (hn:n≤60) (k:Int) (i:IdT) (q:List UInt8) (sf:Bool):RunP P (n+1) (zha R k i q sf)∧(PowD R.C.D→LiveP P (n+1) (zha R k i q sf)∧PowD (zha R k i q sf).C.D):=by
 obtain ⟨E0,E1,s,h1,h2,h3⟩:=h
 obtain ⟨r,hr⟩:∃ r,r=zaN R.C k i q sf:=⟨_,rfl⟩
 have hP:zha R k i q sf=zeQ { R with C:=r.1 } ⟨k,i,q⟩ r.2 sf:=by unfold zha;rw [hr]
 rw [hP]
 rcases h1.put hn ⟨k,i,q⟩ sf (r:=r) hr with ⟨a1,a2⟩|⟨a1,a2,⟨s',a3,a4,a5⟩,a6,a7⟩|⟨a1,a2,a3,a4,a5,a6⟩
 ·rw [a2]
  dsimp only
  rw [zn4 _ _ ⟨a1,zAX _ _ _ _⟩]
  have:LiveP P (n+1) R:=⟨E0,E1,s,h1.more (by omega),h2,h3⟩
  exact ⟨.inl this,fun hp=>⟨this,hp⟩⟩
 ·have hL:LiveP P (n+1) (zeQ { R with C:=r.1 } ⟨k,i,q⟩ r.2 sf):=by
   unfold zeQ
   rw [a2,if_neg (by simp)]
   refine ⟨E0,E1++[⟨k,i,q⟩],s',a3,by dsimp only;rw [h2,List.append_assoc],?_⟩
   dsimp only
   split
   ·rename_i hs
    rw [a5 hs.2,h2,List.length_append];omega
   ·omega
  refine ⟨.inl hL,fun hp=>⟨hL,?_⟩⟩
  have hq:=a6 hp
  unfold zeQ
  rw [a2,if_neg (by simp)]
  exact hq
 ·refine ⟨.inr ?_,fun hp=>absurd hp a3⟩
  have hx:=h1.evs.2.1
  have he:=h1.cnt.evs
  unfold zeQ
  rw [a2,if_neg (by simp)]
  refine ⟨a4,by dsimp only;rw [a5];omega,by dsimp only;rw [h2,List.length_append,List.length_singleton];omega,?_⟩
  rcases a6 with a6|a6
  ·exact ⟨E0,E1,s,[⟨k,i,q⟩],a6,by dsimp only;rw [h2],by rw [if_neg (by simp)];exact h3⟩
  ·exact ⟨E0,E1++[⟨k,i,q⟩],s,[],a6,by dsimp only;rw [h2];simp,by rw [if_neg (by simp)];exact h3⟩
theorem zxr (S:StR) (d:Int):(zaT S d).2≠9:=by
 unfold zaT
 repeat' split
 ·exact show (7:Int)≠9 by decide
 ·exact show (1:Int)≠9 by decide
 ·exact show (2:Int)≠9 by decide
 ·exact show (10:Int)≠9 by decide
 ·exact show (0:Int)≠9 by decide
theorem zzx {X:StW} (hp:PureW X) {d:Int} (h:(zaT X.S d).2=0):(zaT X.S d).1=zn3 X d:=by
 unfold zaT at h ⊢
 split
 ·rename_i g;rw [if_pos g] at h;exact absurd h (by decide)
 rename_i g
 rw [if_neg g] at h
 split
 ·rename_i g1;rw [if_pos g1] at h;exact absurd h (by decide)
 rename_i g1
 rw [if_neg g1] at h
 split
 ·rename_i g2;rw [if_pos g2] at h;exact absurd h (by decide)
 rename_i g2
 rw [if_neg g2] at h
 split
 ·rename_i g3;rw [if_pos g3] at h;exact absurd h (by decide)
 ·unfold zn3
  rw [zzw,zkO hp.inv (by omega)]
theorem znS (h:LiveI P n C E0 E1 s) (d:Int) (q:List UInt8):zbv C d q=if (zaT C.X.S d).2≠0 then (C,zbO,(zaT C.X.S d).2) else
  if (zaN C 2 (zaT C.X.S d).1 q true).2≠0 then ((zaN C 2 (zaT C.X.S d).1 q true).1,zbO,(zaN C 2 (zaT C.X.S d).1 q true).2) else ((zaN C 2 (zaT C.X.S d).1 q true).1,(zaT C.X.S d).1,0):=by
 have hf:zjn C d=(zaT C.X.S d).2:=by unfold zjn;rw [if_neg (by rw [h.up.2.2];simp)]
 unfold zbv
 rw [if_neg (by simp [h.up.1]),hf]
theorem LiveP.sub (h:LiveP P n R) (hn:n≤60) (hp:PureW R.C.X) (x:zf6):RunP P (n+1) (zjs R x)∧(PowD R.C.D→LiveP P (n+1) (zjs R x)∧PowD (zjs R x).C.D):=by
 have hL:=h
 obtain ⟨E0,E1,s,h1,h2,h3⟩:=h
 have hs:=znS h1 x.n x.p
 by_cases hf:(zaT R.C.X.S x.n).2=0
 ·rw [if_neg (by simp [hf])] at hs
  have key:zjs R x=zha R 2 (zaT R.C.X.S x.n).1 x.p true:=by
   unfold zjs zha
   rw [hs]
   split
   ·dsimp only
    by_cases h9:(zaN R.C 2 (zaT R.C.X.S x.n).1 x.p true).2=9
    ·rw [if_pos h9,zzx hp hf]
    ·rename_i h0
     rw [zn4 _ _ ⟨h0,h9⟩,zn4 _ _ ⟨h0,h9⟩]
   ·rename_i h0
    have h0':(zaN R.C 2 (zaT R.C.X.S x.n).1 x.p true).2=0:=by simpa using h0
    dsimp only
    rw [if_neg (by decide),h0']
  rw [key]
  exact hL.put hn _ _ _ _
 ·rw [if_pos hf] at hs
  have key:zjs R x=R:=by
   unfold zjs
   rw [hs]
   dsimp only
   exact zn4 _ _ ⟨hf,zxr _ _⟩ _
  rw [key]
  exact ⟨.inl hL.more,fun hp=>⟨hL.more,hp⟩⟩
theorem LiveP.cmp (h:LiveP P n R) (hn:n≤60) (hp:PureW R.C.X):RunP P (n+1) (zkQ R)∧(PowD R.C.D→LiveP P (n+1) (zkQ R)∧PowD (zkQ R).C.D):=by
 obtain ⟨E0,E1,s,h1,h2,h3⟩:=h
 have hsl:s≤E1.length:=by have:=h1.rc.seg.safe_le;simpa using this
 rcases h1.compact hn hp with ⟨a1,a2,a3, -⟩|⟨a1,a2,a3,a4,a5⟩
 ·have hL:LiveP P (n+1) (zkQ R):=⟨E0++E1,[],0,a3,by rw [List.append_nil];exact h2,by unfold zkQ;dsimp only;rw [if_pos a1,h2];simp⟩
  exact ⟨.inl hL,fun hp=>⟨hL,a2 hp⟩⟩
 ·refine ⟨.inr ?_,fun hp=>absurd hp a2⟩
  have hx:=h1.evs.2.1
  have he:=h1.cnt.evs
  have hsf:(zkQ R).safe=R.safe:=by unfold zkQ;dsimp only;rw [if_neg (by rw [a1];decide)]
  refine ⟨a3,by show (zc4 R.C).1.X.sn.length≤_;rw [a4];omega,by show R.evs.length≤_;rw [h2];omega,?_⟩
  rcases a5 with a5|a5
  ·exact ⟨E0,E1,s,[],a5,by rw [List.append_nil];exact h2,by rw [hsf];exact h3⟩
  ·exact ⟨E0++E1,[],0,[],a5,by rw [List.append_nil,List.append_nil];exact h2,by rw [hsf,List.length_append];omega⟩
theorem LiveP.act (h:LiveP P n R) (hn:n≤60) (hp:PureW R.C.X) (hw:PowD R.C.D) {x:zf6} (hx:x.kind≠5):LiveP P (n+1) (zeR R x)∧PowD (zeR R x).C.D:=by
 unfold zeR
 split
 ·exact (h.sub hn hp x).2 hw
 split
 ·exact (h.put hn _ _ _ _).2 hw
 split
 ·exact (h.put hn _ _ _ _).2 hw
 split
 ·exact (h.put hn _ _ _ _).2 hw
 split
 ·exact (h.cmp hn hp).2 hw
 exact ⟨h.more,hw⟩
end Go.Proofs.YtpdkkbpkplhdpaaGreat
namespace Go.Proofs.YtpdkkbpkplhdpaaGreat
open Go Go.Vm
attribute [local irreducible] Brn Ob Grow CallsM inR zaz zay Mem.row Mem.cells Mem.setCells Mem.upd Go.Vm.Own zaF za5 za7 zaP New SrcOk subA NewSl Mem.textAt Mem.mapAt Mem.iterAt zax zal Wr NewEls Elems
set_option maxRecDepth 10000
section
variable {A M M':Mem}
def keepW:List Int:=List.replicate 64 1048576
theorem whole_ok:CallsM Tryz.prog F.zhy [] M fun v M'=>∃ a c,v = .slice a 64 c∧NewSl M T.zq 1 a 64 c (keepW.map zab) M':=by
 refine zsf (by simp) ?_
 refine zR ?_
 refine new (fun b hb=>?_)
 replace hb:M b=none:=hb
 have hN:NewSl M T.zq 1 (some ⟨b,0,none⟩) 64 64 ((List.replicate 64 (0:Int)).map zab) _:=NewSl.lit hb T.zq 1 64 ((List.replicate 64 (0:Int)).map zab) rfl
 obtain ⟨M0,hM0⟩:∃ M0,M0=M.setCells b T.zq ((List.replicate 64 (0:Int)).map zab):=⟨_,rfl⟩
 rw [←hM0] at hN
 have hM0':M.setCells b 3 (List.replicate (Int.toNat 64) [Value.int .i64 0]).flatten=M0:=by rw [hM0];rfl
 (conv=>whnf)
 rw [hM0']
 refine za8 (σ:=Nat×Mem×List Int) [2] (fun x=>[(2,.int .i64 x.1)]) (fun _=>[]) (fun x=>x.2.1)
  (fun|⟨i,M1,L⟩=>i≤64∧NewSl M T.zq 1 (some ⟨b,0,none⟩) 64 64 (L.map zab) M1∧∀ j,j<i→L[j]? = some (1048576:Int)) (fun x=>64 - x.1) ⟨0,M0,List.replicate 64 0⟩
  ⟨by omega,hN,fun j hj=>by omega⟩ zS ?_
 rintro ⟨i,M1,L⟩ ⟨hi,hN1,hL⟩
 have hll:L.length=64:=hN1.src.maplen
 (conv=>whnf);refine brn (fun g=>?_) (fun g=>?_)
 ·have hi':i<64:=by have:=Zd0 g;omega
  obtain ⟨b',cs,hbb,_,hcells,hlen,hst⟩:=hN1.store1 (j:=i) (by omega)
  cases hbb
  (conv=>whnf);refine ob (by omega) ?_
  (conv=>whnf);refine on hcells ?_
  (conv=>whnf);refine ob hlen ?_
  have hN3:=(hst 1048576).1
  obtain ⟨M3,hM3⟩:∃ M3,M3=M1.setCells b T.zq (zg cs (0+i*1) [zab 1048576]):=⟨_,rfl⟩
  rw [←hM3] at hN3
  (conv=>whnf)
  erw [←hM3]
  refine zR ?_
  refine ob (zf (by omega)) ?_
  (conv=>whnf)
  refine ⟨⟨i+1,M3,L.set i 1048576⟩,⟨by omega,hN3,fun j hj=>?_⟩,by dsimp only;omega,zS⟩
  rw [List.getElem?_set]
  by_cases e:i=j
  ·rw [if_pos e,if_pos (by omega)]
  ·rw [if_neg e];exact hL j (by omega)
 ·have hi2:i=64:=by have:=Zd1 g;omega
  subst hi2
  have e:L=keepW:=by
   refine List.ext_getElem? fun j=>?_
   by_cases hj:j<64
   ·rw [hL j hj];unfold keepW;rw [List.getElem?_replicate,if_pos hj]
   ·rw [List.getElem?_eq_none (by omega),List.getElem?_eq_none (by unfold keepW;rw [List.length_replicate];omega)]
  rw [e] at hN1
  refine zR ?_
  exact ⟨_,_,rfl,hN1⟩
theorem zzy {D:zd} (h:InvD D):∀ n f f',ze D.l n=some f→ze (zb5 D keepW).l n=some f'→bl f'.all=bl f.all:=fun n f f' hf hf'=>by
 obtain ⟨h1,h2⟩:=(zai h.sort).1 hf
 obtain ⟨i,hlt,he⟩:=List.getElem_of_mem h1
 have hi:(zb5 D keepW).l[i]? = some (zcD keepW i f):=by
  unfold zb5
  dsimp only
  rw [List.getElem?_mapIdx,List.getElem?_eq_getElem hlt,he];rfl
 have hm:=List.mem_of_getElem? hi
 have e2:ze (zb5 D keepW).l n=some (zcD keepW i f):=(zai (zik h keepW).sort).2 ⟨hm,h2⟩
 rw [hf'] at e2
 have e3:=Option.some.inj e2
 have hlen:=h.len
 have hts:f.tail.size≤1048576:=by
  have:=(za6 h.sort hf).2
  have:=h.used
  omega
 have hk:zhf keepW i f=f.tail.size:=by
  unfold zhf keepW
  rw [List.getElem?_replicate,if_pos (by omega)]
  dsimp only
  rw [if_pos (by decide)]
  have:Int.toNat 1048576=1048576:=rfl
  omega
 rw [e3]
 unfold zcD FileR.all
 dsimp only
 rw [hk,zY,zY,zY,zch,zb8,List.append_nil,List.take_of_length_le (by rw [zat];exact Nat.le_refl _)]
end
section
variable {A M M':Mem}
theorem zEH {σ:Type} {body:(Exit→St→Prop)→St→Prop} {Q:Exit→St→Prop} {fr0:List (Nat×SV)} {bx0:List BE} {M0:Mem} (keys:List Nat) (fr:σ→List (Nat×SV)) (mem:σ→Mem) (inv:σ→Prop) (μ:σ→Nat) (x0:σ) (h0:inv x0)
  (hs:St.sub ⟨fr x0++zeo keys fr0,bx0,mem x0⟩ ⟨fr0,bx0,M0⟩)
  (h:∀ x,inv x→body (zlh Q fun s'=>∃ y,inv y∧μ y<μ x∧St.sub ⟨fr y++zeo keys fr0,bx0,mem y⟩ s') ⟨fr x++zeo keys fr0,bx0,mem x⟩):zaz body Q ⟨fr0,bx0,M0⟩:=za8 keys fr (fun _=>bx0) mem inv μ x0 h0 hs h
structure zCm where
 i:Nat
 M:Mem
 H:CuH
 a:Option Addr
 cc:Nat
 R:zdP
structure LoopI (P:Par) (M:Mem) (r c p n:Nat) (y:zCm):Prop where
 i:y.i≤n∧y.i≤40
 run:RunAt M y.M r c p (104857600300+y.i) y.H y.a y.cc y.R
 live:LiveP P (2+y.i) y.R
 pow:PowD y.R.C.D
theorem ActR.x {cs:List Value} {x:zf6} (h:ActR M cs x):∃ a1 c1 a2 n2 c2,cs=zzt x a1 c1 a2 n2 c2∧XAt M x a1 a2 n2:=by
 obtain ⟨a1,c1,a2,n2,c2,h1,h2,h3,h4,h5,h6,h7⟩:=h
 exact ⟨a1,c1,a2,n2,c2,h1,h2,h3,h5,h6,h7⟩
def zgP (C:CuR) (y:zf6):CuR×Int:=
 if y.kind=0 then ((zbv C y.n y.p).1,(zbv C y.n y.p).2.2) else if y.kind=1 then zaN C 2 y.id y.p true else if y.kind=2 then zaN C 3 y.id [] false else if y.kind=3 then zaN C 4 y.id [] true else (C,0)
theorem zhi {P:Par} {n:Nat} {C:CuR} {E0 E1:List EvX} {s:Nat} (h:LiveI P n C E0 E1 s) (hn:n≤60) (hp:PowD C.D) (k:Int) (i:IdT) (q:List UInt8) (sf:Bool) (hne:(zaN C k i q sf).2≠0):(zaN C k i q sf).1=C:=by
 rcases h.put hn ⟨k,i,q⟩ sf (r:=zaN C k i q sf) rfl with ⟨_,a2⟩|⟨_,a2,_⟩|⟨_,_,a3,_⟩
 ·have a3:zaN C k i q sf=(C,zcP C.X k i q.length):=a2
  rw [a3]
 ·exact absurd a2 hne
 ·exact absurd hp a3
theorem zxS {P:Par} {n:Nat} {C:CuR} {E0 E1:List EvX} {s:Nat} (h:LiveI P n C E0 E1 s) (hn:n≤60) (hp:PowD C.D) (y:zf6) (hne:(zgP C y).2≠0):(zgP C y).1=C:=by
 unfold zgP at hne ⊢
 split
 ·rename_i e
  rw [if_pos e] at hne
  rw [znS h] at hne ⊢
  split
  ·rfl
  ·rename_i g
   rw [if_neg g] at hne
   split
   ·rename_i g2
    exact zhi h hn hp _ _ _ _ g2
   ·rename_i g2
    rw [if_neg g2] at hne
    exact absurd rfl hne
 rename_i e
 rw [if_neg e] at hne
 split
 ·rename_i e1;rw [if_pos e1] at hne;exact zhi h hn hp _ _ _ _ hne
 rename_i e1
 rw [if_neg e1] at hne
 split
 ·rename_i e2;rw [if_pos e2] at hne;exact zhi h hn hp _ _ _ _ hne
 rename_i e2
 rw [if_neg e2] at hne
 split
 ·rename_i e3;rw [if_pos e3] at hne;exact zhi h hn hp _ _ _ _ hne
 ·rfl
theorem zA3 {X:StW} (h:zcP X 1 zbO 0=0):(zcR X bootX).S.l=X.S.l∧(zcR X bootX).S.epoch=X.S.epoch+1:=by
 unfold zcR zcV
 have h2:zcP X bootX.kind bootX.id bootX.p.length=0:=h
 rw [if_pos h2]
 exact ⟨rfl,rfl⟩
theorem StatN.minus {M0 M:Mem} {X:StW} {v:Value} (h:StatN M0 M X v) {S:Nat→Prop} (hS:∀ y,S y→M0 y≠none) :
  ∃ ua uc ha hc ms ma mc mk,v=ziq X.S.self X.S.epoch ua (z6 X.S.used).length uc ha ms.length hc ma mk.length mc∧StatR (M.minus S) ua (z6 X.S.used).length ha ms.length ma mk.length (z6 X.S.used) ms mk∧ms.map MX.msg=X.S.l∧mk.map MkC.mk'=X.sn∧ms.length≤4194000:=by
 obtain ⟨ua,uc,ha,hc,ms,ma,mc,mk,hv,hR, -, h1,h2,hN,hH,hM⟩:=h.ex
 have hk:∀ {E:TypeId} {s:Nat} {a:Option Addr} {n c:Nat} {L:List Value},NewSl M0 E s a n c L M→SrcOk (M.minus S) s a n L:=fun hN=>hN.src.minus fun q hq hb=>hS _ hb (hN.block hq).1
 exact ⟨ua,uc,ha,hc,ms,ma,mc,mk,hv,⟨hk hN,⟨hk hH.row,fun m hm=>hk (hH.data m hm)⟩,⟨hk hM.row,fun m hm=>hk (hM.more m hm)⟩,hR.few,hR.short⟩,h1,h2,hR.short.2.1⟩
set_option maxHeartbeats 2000000 in
set_option maxRecDepth 20000 in
theorem zxs (s:zjo) {la:Option Addr} {n lc:Nat} {l:List zf6} (hl:Elems M 8 la n (ActR M) l) (hn:n≤1048576) (y:zf6) {a1 a2:Option Addr} {c1 n2 c2:Nat} (hy:XAt M y a1 a2 n2) :
  CallsM Tryz.prog F.zef [.agg (zs9 s).toArray,.slice la n lc,.agg (zzt y a1 c1 a2 n2 c2).toArray] M fun v M'=>v = .bool true∧M.le M':=by
 refine zju (by simp) ?_
 refine zR ?_
 refine (zB2 s).mono ?_
 rintro v _ ⟨rfl,rfl⟩
 refine zR ?_
 refine (zB3 s).mono ?_
 rintro v M1 (⟨hno,rfl,hle1⟩|⟨hok,r,c,p,H,ra,rc,C,rfl,h1,hl1,hp1⟩)
 ·refine zR ?_
  refine (zDb { s with limit:=1048576 }).mono ?_
  rintro v _ ⟨rfl,rfl⟩
  have hno2:¬okS { s with limit:=1048576 }:=hno
  (conv=>whnf);refine brn_t (by rw [decide_eq_false hno2];rfl) ?_
  refine zR ?_
  refine awake_ok.mono ?_
  rintro v M2 ⟨rfl,hle2⟩
  refine zR ?_
  exact ⟨rfl,Mem.le_trans hle1 hle2⟩
 refine zR ?_
 refine zEH (σ:=zCm) [8] (fun z=>[(8,.int .i64 z.i)]) (fun z=>z.M) (LoopI (zgO s) M r c p n) (fun z=>40 - z.i) ⟨0,M1,H,ra,rc,⟨C,[bootX],1⟩⟩
  ⟨⟨by dsimp only;omega,by dsimp only;omega⟩,h1,⟨[],[bootX],1,hl1,rfl,by show (1:Int)≤1;decide⟩,hp1⟩ zS ?_
 rintro ⟨i,Mc,H,ra,rc,R⟩ ⟨⟨hi1,hi2⟩,hR,hL,hP⟩
 dsimp only at hi1 hi2 hR hL hP
 have hpure:PureW R.C.X:=hR.cu.st.pure
 have hlen:=(show RunP (zgO s) (2+i) R from .inl hL).len
 (conv=>whnf);refine brn (fun e=>?_) (fun e=>?_)
 have hlt:i<n:=by have:=Zd0 e;dsimp only at this;omega
 refine zR ?_
 refine brn (fun e=>?_) (fun e=>?_)
 ·have hlt2:i<40:=by have:=Zd0 e;dsimp only at this;omega
  obtain ⟨hl1,xb,xo,xcs,hxa,hxr, -, -, hx⟩:=hl.at (by decide) hlt
  generalize l[i]=x at hx
  obtain ⟨b1,d1,b2,m2,d2,rfl,hxx⟩:=hx.x
  have hMc:=hR.cu.le
  refine zR ?_
  refine ob (by first|omega|(dsimp only;omega)) ?_
  (conv=>whnf);refine atp hxa ?_
  (conv=>whnf);refine on (Mem.row_le hMc (hxr 0 1 (by decide))) ?_
  refine zR ?_
  refine brn (fun e=>?_) (fun e=>?_)
  ·have hk:x.kind<5:=Zd0 e
   refine zR ?_
   refine ob (by first|omega|(dsimp only;omega)) ?_
   (conv=>whnf);refine atp hxa ?_
   (conv=>whnf);refine on (Mem.row_le hMc (hxr 0 8 (by decide))) ?_
   refine zR ?_
   refine (zEg hR (by omega) hxx (by omega) (by omega)).mono ?_
   rintro v M2 ⟨rfl,H2,ra2,rc2,h2⟩
   obtain ⟨g1,g2⟩:=hL.act (by omega) hpure hP (x:=x) (by omega)
   refine zR ?_
   refine ob (zf (by first|omega|(dsimp only;omega))) ?_
   (conv=>whnf)
   exact ⟨⟨i+1,M2,H2,ra2,rc2,zeR R x⟩,⟨⟨by dsimp only;omega,by dsimp only;omega⟩,h2.more (by dsimp only;omega),g1,g2⟩,by dsimp only;omega,zS⟩
  ·(conv=>whnf)
   refine zR ?_
   refine ob (zf (by first|omega|(dsimp only;omega))) ?_
   (conv=>whnf)
   exact ⟨⟨i+1,Mc,H,ra,rc,R⟩,⟨⟨by dsimp only;omega,by dsimp only;omega⟩,hR.more (by dsimp only;omega),hL.more,hP⟩,by dsimp only;omega,zS⟩
 all_goals (
 refine zL (hR.self) ?_
 refine (zla hR.cu (by omega) (by omega)).mono ?_
 rintro v Ma ⟨hlea,hSa⟩
 have hSm:=hSa.minus (S:=cuB c p H) fun z hz=>hR.cu.some hz
 obtain ⟨ua,uc,ha,hc,ms,ma,mc,mk,rfl,hSt,hms,hmk,hsh⟩:=hSm
 have hRa:=hR.to hlea
 have hba:=hRa.cu.base
 (conv=>whnf);refine brn (fun g=>?_) (fun g=>?_)
 have k0:y.kind=0:=Zd0 g
 have hX:zgP R.C y=((zbv R.C y.n y.p).1,(zbv R.C y.n y.p).2.2):=by unfold zgP;rw [if_pos k0]
 refine zL (hRa.self) ?_
 refine (zl6 hba.1 (by omega) y.n (hy.p.le hba.2) hy.pl).mono ?_
 rintro v Mb ⟨H2,rfl,h2⟩
 rw [show (zbv R.C y.n y.p).1=(zgP R.C y).1 by rw [hX]] at h2
 rw [show (zbv R.C y.n y.p).2.2=(zgP R.C y).2 by rw [hX]]
 rotate_left
 have k0:¬y.kind=0:=Zd1 g
 refine zR ?_
 refine brn (fun g1=>?_) (fun g1=>?_)
 have k1:y.kind=1:=Zd0 g1
 have hX:zgP R.C y=zaN R.C 2 y.id y.p true:=by unfold zgP;rw [if_neg k0,if_pos k1]
 refine zL (hRa.self) ?_
 refine (zAI hba.1 (by omega) y.id (hy.p.le hba.2) hy.pl).mono ?_
 rw [←hX]
 rintro v Mb ⟨H2,rfl,h2⟩
 rotate_left
 have k1:¬y.kind=1:=Zd1 g1
 refine zR ?_
 refine brn (fun g2=>?_) (fun g2=>?_)
 have k2:y.kind=2:=Zd0 g2
 have hX:zgP R.C y=zaN R.C 3 y.id [] false:=by unfold zgP;rw [if_neg k0,if_neg k1,if_pos k2]
 refine zL (hRa.self) ?_
 refine (ztH hba.1 (by omega) y.id).mono ?_
 rw [←hX]
 rintro v Mb ⟨H2,rfl,h2⟩
 rotate_left
 have k2:¬y.kind=2:=Zd1 g2
 refine zR ?_
 refine brn (fun g3=>?_) (fun g3=>?_)
 have k3:y.kind=3:=Zd0 g3
 have hX:zgP R.C y=zaN R.C 4 y.id [] true:=by unfold zgP;rw [if_neg k0,if_neg k1,if_neg k2,if_pos k3]
 refine zL (hRa.self) ?_
 refine (ztI hba.1 (by omega) y.id).mono ?_
 rw [←hX]
 rintro v Mb ⟨H2,rfl,h2⟩
 rotate_left
 ·refine zR ?_
  refine awake_ok.mono ?_
  rintro v M9 ⟨rfl,hle9⟩
  refine zR ?_
  exact ⟨rfl,Mem.le_trans hRa.cu.le hle9⟩
 all_goals (
 (conv=>whnf);refine brn (fun g9=>?_) (fun g9=>?_)
 ·refine zR ?_
  refine awake_ok.mono ?_
  rintro v M9 ⟨rfl,hle9⟩
  refine zR ?_
  exact ⟨rfl,Mem.le_trans (Mem.le_trans hba.2 h2.le) hle9⟩
 have hne:(zgP R.C y).2≠0:=Zd1 g9
 obtain ⟨E0,E1,sf,hLv,hev,hsf⟩:=hL
 rw [zxS hLv (by omega) hP y hne] at h2
 have hRb:=hRa.turn h2
 have hbb:=hRb.cu.base
 refine zX ?_
 refine ⟨Mb.minus (cuB c p H2),Mem.minus_le _ _,?_⟩
 refine zX ?_
 (conv=>whnf);refine on ((hRb.self.minus hRb.rc).c1 rfl) ?_
 refine zX ?_
 refine (zla hRb.cu (by omega) (by dsimp only;omega)).mono ?_
 rintro v Md ⟨hled,hSd⟩
 obtain ⟨ua2,uc2,ha2,hc2,ms2,ma2,mc2,mk2,rfl,hSt2, -, hms2,hmk2, -, -, -⟩:=hSd.ex
 have hX2:Mem.le (Mb.minus (cuB c p H2)) Md:=Mem.le_trans (Mem.minus_le _ _) hled
 (conv=>whnf);refine ob rfl ?_
 (conv=>whnf);refine ob rfl ?_
 (conv=>whnf);refine ob rfl ?_
 (conv=>whnf);refine grow_same hX2 ?_
 refine zX ?_
 refine (zwd R.C.X.S.self R.C.X.S.epoch hSt2 (hSt.le (Mem.le_trans h2.le hled)) (by rw [hms2,hms]) (by rw [hmk2,hmk]) _ _ _ _ _ _).mono ?_
 rintro v _ ⟨rfl,rfl⟩
 (conv=>whnf);refine ob rfl ?_
 (conv=>whnf);refine ob rfl ?_
 (conv=>whnf);refine ob rfl ?_
 (conv=>whnf);refine grow_same hX2 ?_
 refine zX ?_
 (conv=>whnf);refine on ((hRb.self.minus hRb.rc).c1 rfl) ?_
 refine zX ?_
 refine whole_ok.mono ?_
 rintro v Me ⟨wa,wc,rfl,hW⟩
 (conv=>whnf);refine ob rfl ?_
 (conv=>whnf);refine ob rfl ?_
 (conv=>whnf);refine ob rfl ?_
 (conv=>whnf);refine grow_same (Mem.le_trans hX2 hW.le) ?_
 refine zX ?_
 have hRd:=hRb.to hled
 have hRe:=hRd.to hW.le
 have hbe:=hRe.cu.base
 have h2e:=(h2.to (Mem.le_trans hled hW.le)).base
 have hWs:SrcOk (Me.minus (z7 p H2.db H2.des)) 1 wa 64 (keepW.map zab):=hW.src.minus fun q hq hb=>hRd.cu.some (.inr (.inr (.inr hb))) (hW.block hq).1
 refine (zxE hbe.1.disk.base.1 hWs (by decide)).mono ?_
 rintro v Mf ⟨es4,rfl,h4⟩
 replace h4:=h4.mono hbe.1.disk.base.2
 have hs4:=(hRe.self.minus hRe.rc).le h4.le
 have hiD:=hRe.cu.disk.inv
 have hcut:=CutD.crash hiD keepW
 have hnm4:NamesC (zb5 R.C.D keepW):=NamesC.less hRe.cu.nm (hcut.nm hiD)
 obtain ⟨ld,m,m1,m2,m3,m4,m5,m6,m7⟩:=hLv.recd.open (by omega) hcut hok.1 hok.2
 have hm:=m7 (zzy hiD)
 subst hm
 rw [List.take_length] at m5
 obtain ⟨O,hO⟩:∃ O,O=zb2 (zb5 R.C.D keepW) s.me s.qh s.qb s.qg s.seg ld:=⟨_,rfl⟩
 have hO2:zb2 (zb5 R.C.D keepW) (zgO s).me (zgO s).qh (zgO s).qb (zgO s).qg (zgO s).seg ld=O:=hO.symm
 rw [hO2] at m4 m5 m6
 have hOX:O.1.X=zcR R.C.X bootX:=by rw [m5.X,←List.append_assoc,zjq,←hLv.X];rfl
 have hbt:zcP R.C.X 1 zbO 0=0:=by
  have h1:=m5.rc.ok
  rw [←List.append_assoc] at h1
  have h2:=(okW_append.1 h1).2.1
  rw [←hLv.X] at h2
  exact h2
 obtain ⟨q1,q2⟩:=zA3 hbt
 rw [←hOX] at q1 q2
 refine zL (hs4) ?_
 refine (znP (ld:=ld) h4 hnm4 (me:=s.me) (qh:=s.qh) (qb:=s.qb) (qg:=s.qg) (seg:=s.seg) (fun _ _=>m3)).mono ?_
 rw [←hO]
 rintro v Mg (⟨h, -⟩|⟨-, c3,H3,rfl,h5⟩)
 ·exact absurd m4 h
 refine zR ?_
 have hev2:=m5.evs
 refine (zla h5 (by decide) (by omega)).mono ?_
 rintro v Mh ⟨hleh,hSh⟩
 obtain ⟨ua3,uc3,ha3,hc3,ms3,ma3,mc3,mk3,rfl,hSt3, -, hms3,hmk3, -, -, -⟩:=hSh.ex
 refine zR ?_
 refine (zpd hSt3.held (hSt.held.le (Mem.le_trans h2e.2 (Mem.le_trans h5.le hleh))) (by have:=hSt3.short.2.1;omega) (by omega)).mono ?_
 rintro v _ ⟨hv,rfl⟩
 rw [decide_eq_true (show ms3.map MX.msg=ms.map MX.msg by rw [hms3,q1,hms])] at hv
 subst hv
 have hep:=hR.cu.st.st.inv.epoch
 refine zR ?_
 refine ob (zf (by omega)) ?_
 (conv=>whnf);refine brn_t (decide_eq_true q2) ?_
 refine zR ?_
 refine awake_ok.mono ?_
 rintro v M9 ⟨rfl,hle9⟩
 refine zR ?_
 exact ⟨rfl,Mem.le_trans (Mem.le_trans hRe.cu.base.2 (Mem.le_trans h5.le hleh)) hle9⟩
 )
 )
end
end Go.Proofs.YtpdkkbpkplhdpaaGreat
namespace Go.Proofs.YtpdkkbpkplhdpaaGreat.custodyRefuses
open Go.ChangeShapes Go.WideShapes Go.ChangeAt Go.RowKit Go.Vm Go.Proofs.YtpdkkbpkplhdpaaGreat.Br
set_option linter.unusedVariables false
set_option maxRecDepth 100000
theorem contract (H:Type) (enc:TypeId×Value→H) (W:World) (base:Nat) (args:Array Value) (ds gs:List (DataW H)) (before:List MemPlace)
  (hval:∀ (j:Nat) t v,Tryz.f6.params[j]? = some t→args[j]? = some v→Value.okWide Tryz.prog W .any base t v)
  (hW:DataW.Whole enc Tryz.prog Tryz.f6.params.toList Rows.custodyRefusesSpec.vars false W args.toList ds gs before) (hk:Rows.uptoSmall H (ds++gs)=true) :
  Calls Tryz.prog F.zef args W fun e W'=>∃ v,e = .returned v∧Rows.custodyRefusesSpec.post enc Tryz.prog Tryz.f6 false true false false W args v W':=by
 refine zEo (s:=Rows.custodyRefusesSpec) (fn:=Tryz.f6) (fun H ds h=>by match ds,h with|[d0,d1,d2],_=>exact ⟨rfl,rfl,rfl⟩) rfl rfl (by kernel_rfl) H enc W args ds gs before hW ?_
 obtain ⟨p,q,hA,hV, -, -, -⟩:=hW
 obtain ⟨rfl,rfl⟩:=trodVars_none hV
 have hb:=zEp hk
 rw [Tryz.params6] at hA hval
 obtain ⟨v0,vs0,d0,ds0,p0,q0,hargs0,rfl,rfl,⟨n0,h0⟩,r0⟩:=trodAll_cons hA
 obtain ⟨v1,vs1,d1,ds1,p1,q1,hargs1,rfl,rfl,⟨n1,h1⟩,r1⟩:=trodAll_cons r0
 obtain ⟨v2,vs2,d2,ds2,p2,q2,hargs2,rfl,rfl,⟨n2,h2⟩,r2⟩:=trodAll_cons r1
 obtain ⟨rfl,rfl,rfl⟩:=trodAll_nil r2
 subst hargs2
 subst hargs1
 obtain rfl:args = #[v0,v1,v2]:=by cases args;simp_all
 obtain ⟨-, s,hs⟩:=zC8 H enc W _ _ _ _ h0 (hb _ (by simp))
 have hv0:=hval 0 _ v0 rfl rfl
 have hw:=zqR Tryz.underlying25 hv0
 rw [hs] at hw
 subst hw
 obtain ⟨-, L,la,ln,lc,hcs,hl,hln,hlc⟩:=zBW H enc W _ _ _ _ h1 (hb _ (by simp))
 have hv1:=hval 1 _ v1 rfl rfl
 obtain rfl:=zBe Tryz.underlying26 rfl hv1 hcs
 obtain ⟨-, x,a1,c1,a2,n2,c2,hx,hx1,hx2,hx3,hx4,hx5,hx6⟩:=zxP H enc W _ _ _ _ h2 (hb _ (by simp))
 have hv2:=hval 2 _ v2 rfl rfl
 have hv:=zqR Tryz.underlying40 hv2
 rw [hx] at hv
 subst hv
 exact zxs s hl hln x ⟨hx1,hx2,hx4,hx5,hx6⟩
set_option maxRecDepth 100000 in
theorem lifted (os:Os) (started:os.Started) (H:Type) (enc:TypeId×Value→H) (F:Stop.Interp) :
  ReturnsInHanded {} Tryz.checked os 6 .any ((Rows.OpenSpec.upto Rows.custodyRefusesSpec).pre6 enc Tryz.prog Tryz.f6 Rows.custodyRefusesUptoRow.domain false) (((Rows.OpenSpec.upto Rows.custodyRefusesSpec).at F).post enc Tryz.prog Tryz.f6 false true false false):=by
 refine returnsInHanded_of_cond (C:=Tryz.checked) (s:=Rows.OpenSpec.upto Rows.custodyRefusesSpec) (k:=Rows.uptoSmall) rfl own started (by kernel_rfl) Tryz.func6
  (OpenSpec.witness (enc:=enc) (C:=Tryz.checked) (s:=Rows.OpenSpec.upto Rows.custodyRefusesSpec) (k:=Rows.uptoSmall) rfl false ⟨#[], #[.agg #[.int .i64 0,.int .i64 0,.int .i64 0,.int .i64 0,.int .i64 0,.int .i64 0],.slice none 0 0,.agg #[.int .i64 0,.int .i64 0,.int .i64 0,.int .i64 0,.int .i64 0,.int .i64 0,.slice none 0 0,.slice none 0 0]],[]⟩ 12 (by kernel_rfl) (by kernel_rfl) (by kernel_rfl)
   (x:=([.agg [.lit (.int .i64 0),.agg [.lit (.int .i64 0),.lit (.int .i64 0),.lit (.int .i64 0)],.lit (.int .i64 0),.lit (.int .i64 0)],.nil,.agg [.lit (.int .i64 0),.lit (.int .i64 0),.agg [.agg [.lit (.int .i64 0),.lit (.int .i64 0),.lit (.int .i64 0),.lit (.int .i64 0)],.nil],.nil]],[],[])) (by kernel_rfl) rfl (by kernel_rfl)) ?_
 intro W base args ds gs before hval hW _ hk _
 exact contract H enc W base args ds gs before hval hW hk
theorem over:Rows.custodyRefusesUptoRow.holds Tryz.pinned (Rows.OpenSpec.upto Rows.custodyRefusesSpec):=
 OpenClaim.holds_of_cond 6 Tryz.f6 rfl rfl rfl rfl rfl rfl rfl ⟨rfl,rfl,rfl,rfl,rfl⟩ rfl rfl rfl rfl rfl (by kernel_rfl) Tryz.func6 (by kernel_rfl)
  (Zd0 (by kernel_rfl)) (by unfold Func.isWrapper;first|(rw [if_pos (by decide +kernel)];kernel_rfl)|(rw [if_neg (by decide +kernel)];exact ⟨rfl,rfl⟩))
  (fun os started H enc _ F=>lifted os started H enc F)
theorem proved:Rows.CustodyRefusesUptoSaid:=
 over
end Go.Proofs.YtpdkkbpkplhdpaaGreat.custodyRefuses
