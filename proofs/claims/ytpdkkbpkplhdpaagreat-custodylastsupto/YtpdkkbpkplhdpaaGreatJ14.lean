/- Part of this proof;laid by program. -/
import Derived.Test.YtpdkkbpkplhdpaaGreatJ13
import Derived.Test.YtpdkkbpkplhdpaaGreatJ12
set_option linter.unusedVariables false
set_option linter.unusedSimpArgs false
namespace Go.Proofs.YtpdkkbpkplhdpaaGreat
open Go Go.Vm
attribute [local irreducible] Brn Ob Grow CallsM inR zax zav Mem.row Mem.cells Mem.setCells Mem.upd Go.Vm.Own zaD za5 zbc zaJ New SrcOk subA NewSl Mem.textAt Mem.mapAt Mem.iterAt zau zaj Wr NewEls Elems
set_option maxRecDepth 10000
variable {M M0:Mem} {p b:Nat} {D:zf} {es:FsT}
structure FreshD (M0 M:Mem) (p b:Nat) (D:zf) (es:FsT):Prop where
 le:M0.le M
 at':DAt M p b D es
 rel:RelD es D.l
 inv:InvD D
 fresh:∀ y,zac p b es y→M0 y=none
theorem FreshD.to (h:FreshD M0 M p b D es) {M':Mem} (hle:M.le M'):FreshD M0 M' p b D es:=⟨Mem.le_trans h.le hle,h.at'.le hle,h.rel,h.inv,h.fresh⟩
theorem FreshD.base (h:FreshD M0 M p b D es):FreshD (M.minus (zac p b es)) M p b D es∧M0.le (M.minus (zac p b es)):=
 ⟨⟨Mem.minus_le _ _,h.at',h.rel,h.inv,fun _ hy=>Mem.minus_in hy⟩,Mem.le_minus h.le h.fresh⟩
theorem FreshD.step (h:FreshD M0 M p b D es) {M':Mem} {es':FsT} {D':zf} (hs:StepD M M' p b es es' D') (hi:InvD D'):FreshD M0 M' p b D' es':=
 ⟨hs.keep.le h.le h.fresh,hs.at',hs.rel,hi,fun y hy=>by
  rcases hs.own y hy with h1|h1
  ·exact h.fresh y h1
  ·cases e:M0 y with
   | none=>rfl
   | some z=>rw[h.le _ _ e] at h1;cases h1⟩
theorem zEb (limit:Int):CallsM Tryz.prog F.zg3 [.int .i64 limit] M fun v M'=>
  ((limit<1∨1048576<limit)∧v = .tuple #[.pointer none,.int .i64 1]∧M'=M) ∨
  (¬(limit<1∨1048576<limit)∧∃ p b,v = .tuple #[ptr p,.int .i64 0]∧FreshD M M' p b ⟨limit,[], -1,false⟩ []):=
 (zCT limit).mono fun v M' h=>by
  rcases h with h|⟨h1,p,b,h2,h3,h4,h5⟩
  ·exact .inl h
  ·exact .inr ⟨h1,p,b,h2,h3,h4,RelD.nil,zv2 h1,h5⟩
theorem zof (h:FreshD M0 M p b D es) {s:ByteArray} (hs:s.size≤4611686018427387904) {a:Option Addr} {n c:Nat} {l:List UInt8} (hl:SrcOk M 1 a n (l.map zl)) :
  CallsM Tryz.prog F.zcI [ptr p,.string s,.slice a n c] M fun v M'=>∃ es',v = .int .i64 (zW D s l).2∧FreshD M0 M' p b (zW D s l).1 es':=
 (zAr h.at' h.rel h.inv s hs hl).mono fun _ _ ⟨hv,es',h'⟩=>⟨es',hv,h.step h' (zpf h.inv s l)⟩
theorem zCr (h:FreshD M0 M p b D es) {s:ByteArray} (hs:s.size≤4611686018427387904):CallsM Tryz.prog F.zdj [ptr p,.string s] M fun v M'=>∃ es',v = .int .i64 (zbn D s).2∧FreshD M0 M' p b (zbn D s).1 es':=
 (zCX h.at' h.rel h.inv s hs).mono fun _ _ ⟨hv,es',h'⟩=>⟨es',hv,h.step h' (znT h.inv s)⟩
theorem zE5 (h:FreshD M0 M p b D es) {s:ByteArray} (hs:s.size≤4611686018427387904) (k:Int):CallsM Tryz.prog F.zft [ptr p,.string s,.int .i64 k] M fun v M'=>∃ es',v = .int .i64 (zcB D s k).2∧FreshD M0 M' p b (zcB D s k).1 es':=
 (zD9 h.at' h.rel h.inv s hs k).mono fun _ _ ⟨hv,es',h'⟩=>⟨es',hv,h.step h' (zv3 h.inv s k)⟩
theorem zC1 (h:FreshD M0 M p b D es) {s t:ByteArray} (hs:s.size≤4611686018427387904) (ht:t.size≤4611686018427387904):CallsM Tryz.prog F.zdy [ptr p,.string s,.string t] M fun v M'=>∃ es',v = .int .i64 (zaG D s t).2∧FreshD M0 M' p b (zaG D s t).1 es':=
 (zAu h.at' h.rel h.inv s t hs ht).mono fun _ _ ⟨hv,es',h'⟩=>⟨es',hv,h.step h' (zpg h.inv s t)⟩
theorem zsT (h:FreshD M0 M p b D es) {s:ByteArray} (hs:s.size≤4611686018427387904):CallsM Tryz.prog F.zbl [ptr p,.string s] M fun v M'=>∃ es',v = .int .i64 (zC D s).2∧FreshD M0 M' p b (zC D s).1 es':=
 (zAt h.at' h.rel h.inv s hs).mono fun _ _ ⟨hv,es',h'⟩=>⟨es',hv,h.step h' (zeH h.inv s)⟩
theorem zE6 (h:FreshD M0 M p b D es) {k:Int} (hk:k≤9223372036854775807):CallsM Tryz.prog F.zfr [ptr p,.int .i64 k] M fun v M'=>∃ es',v = .int .i64 (zgg D k).2∧FreshD M0 M' p b (zgg D k).1 es':=
 (zEa h.at' h.rel k).mono fun _ _ ⟨hv,h'⟩=>⟨es,hv,h.step h' (zqn h.inv hk)⟩
theorem zx0 (h:FreshD M0 M p b D es) {ka:Option Addr} {kn kc:Nat} {keep:List Int} (hk:SrcOk M0 1 ka kn (keep.map zaa)) (hkn:kn≤4194304) :
  CallsM Tryz.prog F.zdH [ptr p,.slice ka kn kc] M fun v M'=>∃ es',v = .int .i64 0∧FreshD M0 M' p b (zbK D keep) es':=
 (zBy h.at' h.rel h.inv (hk.le h.base.2) hkn).mono fun _ _ ⟨hv,es',h'⟩=>⟨es',hv,h.step h' (zmd h.inv keep)⟩
theorem zza (h:FreshD M0 M p b D es) {s:ByteArray} (hs:s.size≤4611686018427387904):CallsM Tryz.prog F.zdh [ptr p,.string s] M fun v M'=>∃ a n c,v = .tuple #[.slice a n c,.int .i64 (zas D s).2]∧n=(bl (zas D s).1).length∧NewSl M T.zn 1 a n c ((bl (zas D s).1).map zl) M':=
 zCY h.at' h.rel h.inv s hs
def zgx (D:zf) (s:ByteArray):Nat:=match zg D.l s with|some f=>f.safe.size|none=>0
theorem zCs (h:FreshD M0 M p b D es) (s:ByteArray):CallsM Tryz.prog F.zd6 [ptr p,.string s] M fun v M'=>v = .int .i64 (zgx D s)∧M=M':=
 (zCZ h.at' h.rel s).mono fun _ _ ⟨hv,h'⟩=>⟨by rw[hv];unfold zgx;cases zg D.l s<;>rfl,h'⟩
end Go.Proofs.YtpdkkbpkplhdpaaGreat
namespace Go.Proofs.YtpdkkbpkplhdpaaGreat
open Go Go.Vm
theorem zrB (x:Nat) (s:Nat):(zdf (x:Int) (s:Int)).toNat=x / 2 ^ s % 256:=by
 unfold zdf
 have e:((x:Int).fdiv (2 ^ ((s:Int)).toNat))=((x / 2 ^ s:Nat):Int):=by
  rw[Int.fdiv_eq_ediv_of_nonneg _ (by exact_mod_cast Nat.zero_le (2 ^ s)),Int.toNat_natCast]
  norm_cast
 rw[e];have:(((x / 2 ^ s:Nat):Int) % 256).toNat=x / 2 ^ s % 256:=by omega
 rw[this];simp
theorem zog {x:Nat} (h:x<4294967296):num (be 4 (x:Int)) 0=x:=by
 have e:be 4 (x:Int)=[zdf (x:Int) ((24:Nat):Int),zdf (x:Int) ((16:Nat):Int),zdf (x:Int) ((8:Nat):Int),zdf (x:Int) ((0:Nat):Int)]:=rfl;rw[e];simp only[num,zrB];omega
theorem zx1 {l:List UInt8} (h:l.length=4):be 4 ((num l 0:Nat):Int)=l:=by
 match l,h with
 | [a,b,c,d],_=>
  have e:be 4 ((num [a,b,c,d] 0:Nat):Int)=[zdf ((num [a,b,c,d] 0:Nat):Int) ((24:Nat):Int),zdf ((num [a,b,c,d] 0:Nat):Int) ((16:Nat):Int),zdf ((num [a,b,c,d] 0:Nat):Int) ((8:Nat):Int),zdf ((num [a,b,c,d] 0:Nat):Int) ((0:Nat):Int)]:=rfl;rw[e];have h1:=a.toNat_lt;have h2:=b.toNat_lt;have h3:=c.toNat_lt;have h4:=d.toNat_lt
  have key:∀ (s:Nat) (z:UInt8),num [a,b,c,d] 0 / 2 ^ s % 256=z.toNat→zdf ((num [a,b,c,d] 0:Nat):Int) (s:Int)=z:=fun s z hz=>by
   apply UInt8.toNat_inj.1;rw[zrB,hz]
  simp only[List.cons.injEq,and_true];refine⟨key 24 a ?_,key 16 b ?_,key 8 c ?_,key 0 d ?_⟩<;>simp only[num]<;>omega
def zcS (p:List UInt8):Prop:=1≤p.length∧p.length≤65536
theorem zea (p:List UInt8):(zap p).length=8+p.length:=by unfold zap;simp[zcp];omega
theorem sum_nat (l:List UInt8):∃ q:Nat,zeG l=(q:Int)∧q<4294967296:=⟨(zeG l).toNat,by have:=zhe l;omega,by have:=zhe l;omega⟩
theorem zrC {p:List UInt8} (h:zcS p) (r:List UInt8):zaQ (zap p++r)=some (p,8+p.length):=by
 obtain⟨q,hq,hq2⟩:=sum_nat (be 4 p.length++p);have e:zap p=be 4 p.length++be 4 (q:Int)++p:=by unfold zap;rw[hq]
 have l1:(be 4 (p.length:Int)).length=4:=zcp 4 _;have l2:(be 4 (q:Int)).length=4:=zcp 4 _
 have t1:(zap p++r).take 4=be 4 p.length:=by rw[e,List.append_assoc,List.append_assoc,List.take_append_of_le_length (by omega),List.take_of_length_le (by omega)]
 have t2:((zap p++r).drop 4).take 4=be 4 (q:Int):=by
  rw[e,List.append_assoc,List.append_assoc,List.drop_append_of_le_length (by omega),List.drop_of_length_le (by omega),List.nil_append,List.take_append_of_le_length (by omega),List.take_of_length_le (by omega)]
 have t3:(zap p++r).drop 8=p++r:=by
  have:(be 4 (p.length:Int)++be 4 (q:Int)).length=8:=by simp[l1,l2]
  rw[e,List.append_assoc,List.drop_append_of_le_length (by omega),List.drop_of_length_le (by omega),List.nil_append]
 have hk:num (be 4 (p.length:Int)) 0=p.length:=zog (by have:=h.2;omega);have hl:(zap p++r).length=8+p.length+r.length:=by rw[List.length_append,zea]
 unfold zaQ;rw[t1,t2,t3,hk,hl,zog hq2,List.take_append_of_le_length (Nat.le_refl _),List.take_length,if_neg (by omega),if_neg (by have:=h.1;have:=h.2;omega),if_pos hq]
theorem zzb {l p:List UInt8} {k:Nat} (h:zaQ l=some (p,k)):l.take k=zap p∧zcS p:=by
 obtain⟨h1,h2,h3,h4,h5⟩:=zdu h;refine⟨?_,h3,h4⟩;unfold zaQ at h;split at h
 ·cases h
 ·rename_i g8;split at h
  ·cases h
  ·rename_i g;split at h
   ·rename_i hs;simp only[Option.some.injEq,Prod.mk.injEq] at h;obtain⟨h6,h7⟩:=h;have hk:num (l.take 4) 0=p.length:=by omega
    rw[h6] at hs;have e1:be 4 ((p.length:Nat):Int)=l.take 4:=by rw[←hk];exact zx1 (by rw[List.length_take];omega)
    have e2:be 4 (zeG (be 4 (p.length:Int)++p))=(l.drop 4).take 4:=by rw[e1,hs];exact zx1 (by rw[List.length_take,List.length_drop];omega)
    unfold zap;rw[e2,e1]
    have a1:l.take k=l.take 4++((l.drop 4).take 4++(l.drop 8).take p.length):=by
     have:k=4+(4+p.length):=by omega
     rw[this,List.take_add,List.take_add,List.drop_drop]
    rw[a1,←h5,List.append_assoc]
   ·cases h
theorem zv4 {p:List UInt8} (h:zcS p) {k:Nat} (hk:k<8+p.length):zaQ ((zap p).take k)=none:=by
 have hlen:((zap p).take k).length=k:=by rw[List.length_take,zea];omega
 unfold zaQ;rw[hlen];split
 ·rfl
 ·rename_i g
  have t1:((zap p).take k).take 4=be 4 p.length:=by
   rw[List.take_take,Nat.min_eq_left (by omega)];unfold zap;rw[List.append_assoc,List.take_append_of_le_length (by rw[zcp];omega),List.take_of_length_le (by rw[zcp];omega)]
  rw[t1,zog (by have:=h.2;omega),if_pos (.inr (.inr (by omega)))]
def zbi (ps:List (List UInt8)):List UInt8:=ps.flatMap zap
theorem zdY (ps:List (List UInt8)):(zbi ps).length=zae ps:=by
 induction ps with
 | nil=>rfl
 | cons p r ih=>simp only[zbi,List.flatMap_cons,List.length_append,zea,zae,List.map_cons,List.sum_cons] at ih ⊢; rw[ih]
theorem zjR (ps qs:List (List UInt8)):zbi (ps++qs)=zbi ps++zbi qs:=by simp[zbi]
theorem zzc {ps:List (List UInt8)} (h:∀ p∈ps,zcS p) (r:List UInt8):zaN (zbi ps++r)=ps++zaN r:=by
 induction ps with
 | nil=>rfl
 | cons p qs ih=>
  have e:zbi (p::qs)++r=zap p++(zbi qs++r):=by simp[zbi]
  rw[e,zhg (zrC (h p (by simp)) _),←zea,List.drop_left,ih fun q hq=>h q (by simp[hq])];rfl
theorem zxz {p:List UInt8} (h:zcS p) {k:Nat} (hk:k<8+p.length):zaN ((zap p).take k)=[]:=zhf (zv4 h hk)
theorem zAv {ps:List (List UInt8)} (h:∀ p∈ps,zcS p) {m:Nat} (hm:m≤zae ps):∃ j,j≤ps.length∧zaN ((zbi ps).take m)=ps.take j∧zae (ps.take j)≤m∧∀ i,i≤ps.length→zae (ps.take i)≤m→i≤j:=by
 induction ps generalizing m with
 | nil=>exact⟨0,Nat.le_refl _,by simp[zbi,zaN,zfY],by simp[zae],fun i hi _=>by simpa using hi⟩
 | cons p qs ih=>
  have hp:=h p (by simp);have e:zbi (p::qs)=zap p++zbi qs:=by simp[zbi]
  have el:zae (p::qs)=(8+p.length)+zae qs:=by simp[zae]
  by_cases hlt:m<8+p.length
  ·refine⟨0,Nat.zero_le _,?_,by simp[zae],fun i hi hle=>?_⟩
   ·rw[e,List.take_append_of_le_length (by rw[zea];omega),zxz hp hlt];rfl
   ·cases i with
    | zero=>exact Nat.le_refl _
    | succ i=>
     rw[List.take_succ_cons] at hle;have:zae (p::qs.take i)=(8+p.length)+zae (qs.take i):=by simp[zae]
     omega
  ·obtain⟨j,h1,h2,h3,h4⟩:=ih (fun q hq=>h q (by simp[hq])) (m:=m - (8+p.length)) (by omega);refine⟨j+1,by simp;omega,?_,?_,fun i hi hle=>?_⟩
   ·have em:m=(zap p).length+(m - (8+p.length)):=by rw[zea];omega
    rw[e,em,List.take_length_add_append,zhg (zrC hp _),←zea,List.drop_left];rw[zea,h2];rfl
   ·rw[List.take_succ_cons];have:zae (p::qs.take j)=(8+p.length)+zae (qs.take j):=by simp[zae]
    omega
   ·cases i with
    | zero=>omega
    | succ i=>
     rw[List.take_succ_cons] at hle;have:zae (p::qs.take i)=(8+p.length)+zae (qs.take i):=by simp[zae]
     have:=h4 i (by simpa using hi) (by omega);omega
theorem znU:∀ (m:Nat) (l:List UInt8),l.length≤m→l.take (zae (zaN l))=zbi (zaN l)∧(∀ p∈zaN l,zcS p)∧zae (zaN l)≤l.length:=by
 intro m
 induction m with
 | zero=>
  intro l hl;have h0:zaQ l=none:=by unfold zaQ;rw[if_pos (by omega)]
  rw[zhf h0];exact⟨by simp[zbi,zae],by simp,by simp[zae]⟩
 | succ m ih=>
  intro l hl;cases hx:zaQ l with
  | none=>
   rw[zhf hx];exact⟨by simp[zbi,zae],by simp,by simp[zae]⟩
  | some q=>
   obtain⟨p,k⟩:=q;obtain⟨h1,h2,h3, -⟩:=zdu hx;obtain⟨h5,h6⟩:=zzb hx;obtain⟨h7,h8,h9⟩:=ih (l.drop k) (by rw[List.length_drop];omega);rw[zhg hx];have el:zae (p::zaN (l.drop k))=k+zae (zaN (l.drop k)):=by simp[zae];omega
   rw[List.length_drop] at h9;refine⟨?_,fun q hq=>?_,by omega⟩
   ·rw[el,List.take_add,h5,h7];simp[zbi]
   ·rcases List.mem_cons.1 hq with rfl|hq
    ·exact h6
    ·exact h8 q hq
end Go.Proofs.YtpdkkbpkplhdpaaGreat
namespace Go.Proofs.YtpdkkbpkplhdpaaGreat
open Go Go.Vm
attribute [local irreducible] Brn Ob Grow CallsM inR zax zav Mem.row Mem.cells Mem.setCells Mem.upd Go.Vm.Own zaD za5 zbc zaJ New SrcOk subA NewSl Mem.textAt Mem.mapAt Mem.iterAt zau zaj Wr NewEls Elems
set_option maxRecDepth 10000
section
variable {M M0:Mem} {g p b:Nat} {D:zf} {es:FsT}
structure zaE where
 first:Int
 last:Int
 size:Int
 failed:Bool
def zc8 (D:zf) (k:Int):Nat:=if D.down=true then zgx D (zc k) else (zas D (zc k)).1.size
def zcq (L:zaE) (e:Int):zaE:={ L with failed:=L.failed||decide (e=9) }
def syncL (D:zf) (L:zaE):zf×zaE×Int:=
 if L.failed=true then (D,L,7) else if D.down=true then (D,zcq L 9,9) else if zc8 D L.last=zgx D (zc L.last) then (D,L,0)
 else ((zbn D (zc L.last)).1,zcq L (zbn D (zc L.last)).2,(zbn D (zc L.last)).2)
def beginL (D:zf) (L:zaE):zf×zaE×Int×Int:=
 if (syncL D L).2.2≠0 then ((syncL D L).1,(syncL D L).2.1,0,(syncL D L).2.2)
 else if zc8 (syncL D L).1 L.last=0 then ((syncL D L).1,(syncL D L).2.1,L.last,0)
 else if L.last=99999 then ((syncL D L).1,(syncL D L).2.1,0,1)
 else ((syncL D L).1,{ (syncL D L).2.1 with last:=L.last+1 },L.last+1,0)
def zzd (D:zf) (L:zaE) (n:Nat):Prop:=0<zc8 D L.last∧L.size - zc8 D L.last<n
instance (D:zf) (L:zaE) (n:Nat):Decidable (zzd D L n):=inferInstanceAs (Decidable (_∧_))
def zbN (D:zf) (L:zaE) (n:Nat):zf×zaE×Int:=if zzd D L n then ((beginL D L).1,(beginL D L).2.1,(beginL D L).2.2.2) else (D,L,0)
def zaf (D:zf) (L:zaE) (q:List UInt8):zf×zaE×Int:=
 if L.failed=true then (D,L,7) else if zgf q≠0 then (D,L,zgf q) else if D.down=true then (D,zcq L 9,9)
 else if (zbN D L (zap q).length).2.2≠0 then zbN D L (zap q).length
 else ((zW (zbN D L (zap q).length).1 (zc (zbN D L (zap q).length).2.1.last) (zap q)).1,
  zcq (zbN D L (zap q).length).2.1 (zW (zbN D L (zap q).length).1 (zc (zbN D L (zap q).length).2.1.last) (zap q)).2,
  (zW (zbN D L (zap q).length).1 (zc (zbN D L (zap q).length).2.1.last) (zap q)).2)
@[reducible] def zf3 (p:Nat) (L:zaE):List Value:=[ptr p,.int .i64 L.first,.int .i64 L.last,.int .i64 L.size,.bool L.failed]
structure LogAt (M0 M:Mem) (g p b:Nat) (D:zf) (es:FsT) (L:zaE):Prop where
 disk:FreshD M0 M p b D es
 self:M.has g T.zcn (zf3 p L)
 fresh:M0 g=none
theorem DAt.notB (h:DAt M p b D es) {g:Nat} {l:List Value} (hg:M.has g T.zcn l):¬zac p b es g:=by
 rintro (e|e|⟨q,hq,e|⟨a,ha,e⟩⟩)
 ·subst e;exact absurd (h.self.inj hg).1 (by decide)
 ·exact h.map.nb hg e
 ·subst e;exact absurd ((h.ents q hq).self.inj hg).1 (by decide)
 ·obtain⟨cs,hh⟩:=(h.ents q hq).row.block ha;subst e;exact absurd (hh.inj hg).1 (by decide)
theorem FreshD.mono {M1:Mem} (h:FreshD M1 M p b D es) (hle:M0.le M1):FreshD M0 M p b D es:=⟨Mem.le_trans hle h.le,h.at',h.rel,h.inv,fun y hy=>by
 cases e:M0 y with
 | none=>rfl
 | some z=>have:=hle _ _ e;rw[h.fresh y hy] at this;cases this⟩
theorem LogAt.to {L:zaE} (h:LogAt M0 M g p b D es L) {M':Mem} (hle:M.le M'):LogAt M0 M' g p b D es L:=⟨h.disk.to hle,h.self.le hle,h.fresh⟩
theorem LogAt.call {L:zaE} (h:LogAt M0 M g p b D es L) {M':Mem} {D':zf} {es':FsT} (h':FreshD (M.minus (zac p b es)) M' p b D' es'):LogAt M0 M' g p b D' es' L:=by
 have hg:(M.minus (zac p b es)).has g T.zcn (zf3 p L):=by
  have:=h.self;unfold Mem.has at this ⊢;unfold Mem.minus;rw[if_neg (h.disk.at'.notB h.self)];exact this
 exact⟨h'.mono h.disk.base.2,hg.le h'.le,h.fresh⟩
theorem LogAt.set {L:zaE} (h:LogAt M0 M g p b D es L) (L':zaE):LogAt M0 (M.setCells g T.zcn (zf3 p L')) g p b D es L':=by
 have hk:Mem.keep (fun y=>y=g) M (M.setCells g T.zcn (zf3 p L')):=fun y o hy ho=>by
  unfold Mem.setCells;rw[Mem.upd_ne _ _ hy];exact ho
 refine⟨⟨hk.le h.disk.le (fun y hy=>by rw[hy];exact h.fresh),h.disk.at'.mono fun y o hy ho=>hk y o (fun e=>?_) ho,h.disk.rel,h.disk.inv,h.disk.fresh⟩,Mem.has_setCells,h.fresh⟩;rw[e] at hy;exact h.disk.at'.notB h.self hy
theorem zeX (k:Int):(zc k).size≤4611686018427387904:=by
 unfold zc;split
 ·show (0:Nat)≤_;decide
 ·show (6:Nat)≤_;decide
theorem znV {L:zaE} (h:M.has g T.zcn (zf3 p L)):CallsM Tryz.prog F.zet [ptr g] M fun v M'=>v = .int .i64 (if L.failed=true then 7 else 0)∧M=M':=by
 refine zp4 (by simp) ?_;obtain⟨fi,la,sz,fl⟩:=L;cases fl
 ·refine zR ?_;refine on (h.c1 rfl) ?_;refine zR ?_;exact⟨rfl,rfl⟩
 ·refine zR ?_;refine on (h.c1 rfl) ?_;refine zR ?_;exact⟨rfl,rfl⟩
theorem zgF {L:zaE} (h:LogAt M0 M g p b D es L) (e:Int):CallsM Tryz.prog F.zdk [ptr g,.int .i64 e] M fun v M'=>v = .int .i64 e∧LogAt M0 M' g p b D es (zcq L e):=by
 refine zrk (by simp) ?_;have h':=h.set (zcq L e)
 have hs:=h.self;clear h;obtain⟨fi,la,sz,fl⟩:=L;cases fl
 ·refine zR ?_;refine on (hs.c1 rfl) ?_;refine zR ?_;refine on hs.cells ?_;(conv=>whnf);refine ob (by simp) ?_;refine zR ?_;exact⟨rfl,h'⟩
 ·refine zR ?_;refine on (hs.c1 rfl) ?_;refine zR ?_;refine on hs.cells ?_;(conv=>whnf);refine ob (by simp) ?_;refine zR ?_;exact⟨rfl,h'⟩
theorem zme (h:FreshD M0 M p b D es):CallsM Tryz.prog F.zcz [ptr p] M fun v M'=>v = .bool D.down∧M=M':=zC0 h.at'
theorem zAw (D:zf) (s:ByteArray):((zas D s).2=9↔D.down=true):=by
 unfold zas zaA z8;cases D.down<;>simp
 repeat' split
 all_goals simp_all
theorem znW {L:zaE} (h:LogAt M0 M g p b D es L) (k:Int):CallsM Tryz.prog F.zd5 [ptr g,.int .i64 k] M fun v M'=>v = .int .i64 (zc8 D k)∧M.le M':=by
 refine zoD (by simp) ?_;refine zR ?_;refine on (h.self.c1 rfl) ?_;refine zR ?_;refine(zei k).mono ?_;rintro v M1 ⟨rfl,hle1⟩;refine zT (hle1) ?_;have h1:=h.to hle1
 refine zR ?_;refine(zza h1.disk (zeX k)).mono ?_;rintro v M2 ⟨a,n,c,rfl,hn,hN⟩;have h2:=h1.to hN.le
 refine zR ?_;refine brn (fun e=>?_) (fun e=>?_)
 ·have hd:=(zAw D (zc k)).1 (Zd0 e);refine zR ?_;refine on (h2.self.c1 rfl) ?_;refine zR ?_;refine(zei k).mono ?_;rintro v M3 ⟨rfl,hle3⟩;have h3:=h2.to hle3
  refine zT (hle3) ?_;refine zR ?_;refine(zCs h3.disk (zc k)).mono ?_;rintro v _ ⟨rfl,rfl⟩;refine zR ?_;refine⟨?_,Mem.le_trans hle1 (Mem.le_trans hN.le hle3)⟩;unfold zc8;rw[if_pos hd]
 ·have hd:¬D.down=true:=fun hd=>Zd1 e ((zAw D (zc k)).2 hd)
  refine zR ?_;refine⟨?_,Mem.le_trans hle1 hN.le⟩;unfold zc8;rw[if_neg hd,hn,zaH]
theorem zv5 {L:zaE} (h:LogAt M0 M g p b D es L):CallsM Tryz.prog F.zeP [ptr g] M fun v M'=>∃ es',v = .int .i64 (syncL D L).2.2∧LogAt M0 M' g p b (syncL D L).1 es' (syncL D L).2.1:=by
 refine zrd (by simp) ?_;refine zR ?_;refine(znV h.self).mono ?_;rintro v _ ⟨rfl,rfl⟩;(conv=>whnf);refine brn (fun e=>?_) (fun e=>?_)
 ·have hf:L.failed=true:=by
   cases hf:L.failed
   ·rw[hf] at e;exact absurd e (by decide)
   ·rfl
  refine zR ?_;rw[if_pos hf,show syncL D L=(D,L,7) by simp[syncL,hf]];exact⟨es,rfl,h⟩
 have hf:¬L.failed=true:=fun hf=>by rw[if_pos hf] at e;exact absurd e (by decide)
 refine zR ?_;refine on (h.self.c1 rfl) ?_;refine zR ?_;refine(zme h.disk).mono ?_;rintro v _ ⟨rfl,rfl⟩;cases hd:D.down
 case true=>
  refine zR ?_;refine(zgF h 9).mono ?_;rintro v M1 ⟨rfl,h1⟩;refine zR ?_;rw[show syncL D L=(D,zcq L 9,9) by simp[syncL,hf,hd]];exact⟨es,rfl,h1⟩
 refine zR ?_;refine on (h.self.c1 rfl) ?_;(conv=>whnf);refine on (h.self.c1 rfl) ?_;(conv=>whnf);refine on (h.self.c1 rfl) ?_;refine zR ?_;refine(znW h L.last).mono ?_;rintro v M1 ⟨rfl,hle1⟩;have h1:=h.to hle1
 refine zT (hle1) ?_;refine zR ?_;refine(zei L.last).mono ?_;rintro v M2 ⟨rfl,hle2⟩;have h2:=h1.to hle2
 refine zT ((Mem.le_trans hle1 hle2)) ?_;refine zR ?_;refine(zCs h2.disk (zc L.last)).mono ?_;rintro v _ ⟨rfl,rfl⟩;(conv=>whnf);refine brn (fun e=>?_) (fun e=>?_)
 ·have e1:zc8 D L.last=zgx D (zc L.last):=by have:=Zd0 e;omega
  refine zR ?_;rw[show syncL D L=(D,L,0) by simp[syncL,hf,hd,e1]];exact⟨es,rfl,h2⟩
 have e1:¬zc8 D L.last=zgx D (zc L.last):=by have:=Zd1 e;omega
 refine zR ?_;refine on (h2.self.c1 rfl) ?_;(conv=>whnf);refine on (h2.self.c1 rfl) ?_;refine zR ?_;refine(zei L.last).mono ?_;rintro v M3 ⟨rfl,hle3⟩;have h3:=h2.to hle3
 refine zT (hle3) ?_;refine zR ?_;refine(zCr h3.disk.base.1 (zeX L.last)).mono ?_;rintro v M4 ⟨es4,rfl,h4⟩;have h4':=h3.call h4
 refine zR ?_;refine(zgF h4' _).mono ?_;rintro v M5 ⟨rfl,h5⟩;refine zR ?_;rw[show syncL D L=((zbn D (zc L.last)).1,zcq L (zbn D (zc L.last)).2,(zbn D (zc L.last)).2) by simp[syncL,hf,hd,e1]];exact⟨es4,rfl,h5⟩
end
section
variable {M M0:Mem} {g p b:Nat} {D:zf} {es:FsT}
theorem ziZ (D:zf) (L:zaE):(syncL D L).2.1.last=L.last∧(syncL D L).2.1.first=L.first∧(syncL D L).2.1.size=L.size:=by
 unfold syncL;repeat' split
 all_goals exact⟨rfl,rfl,rfl⟩
theorem ztk {L:zaE} (h:LogAt M0 M g p b D es L) (hl:L.last≤99999) (hl1:1≤L.last):CallsM Tryz.prog F.zep [ptr g] M fun v M'=>∃ es',v = .tuple #[.int .i64 (beginL D L).2.2.1,.int .i64 (beginL D L).2.2.2]∧LogAt M0 M' g p b (beginL D L).1 es' (beginL D L).2.1:=by
 refine zpP (by simp) ?_;refine zR ?_;refine(zv5 h).mono ?_;rintro v M1 ⟨es1,rfl,h1⟩;obtain⟨l1,l2,l3⟩:=ziZ D L;obtain⟨S,hS⟩:∃ S,S=syncL D L:=⟨_,rfl⟩
 have hB:beginL D L=if S.2.2≠0 then (S.1,S.2.1,0,S.2.2) else if zc8 S.1 L.last=0 then (S.1,S.2.1,L.last,0) else if L.last=99999 then (S.1,S.2.1,0,1) else (S.1,{ S.2.1 with last:=L.last+1 },L.last+1,0):=by rw[hS];rfl
 rw[←hS] at h1 l1 l2 l3 ⊢;(conv=>whnf);refine brn (fun e=>?_) (fun e=>?_)
 ·have e1:S.2.2≠0:=by simpa using e
  refine zR ?_;rw[hB,if_pos e1];exact⟨es1,rfl,h1⟩
 have e1:¬S.2.2≠0:=by simpa using e
 refine zR ?_;refine on (h1.self.c1 rfl) ?_;refine zR ?_;rw[l1];refine(znW h1 L.last).mono ?_;rintro v M2 ⟨rfl,hle2⟩;have h2:=h1.to hle2
 (conv=>whnf);refine brn (fun e=>?_) (fun e=>?_)
 ·have e2:zc8 S.1 L.last=0:=by have:=Zd0 e;omega
  refine zR ?_;refine on (h2.self.c1 rfl) ?_;refine zR ?_;rw[hB,if_neg e1,if_pos e2,l1];exact⟨es1,rfl,h2⟩
 have e2:¬zc8 S.1 L.last=0:=by have:=Zd1 e;omega
 refine zR ?_;refine on (h2.self.c1 rfl) ?_;refine zR ?_;rw[l1];refine brn (fun e=>?_) (fun e=>?_)
 ·have e3:L.last=99999:=Zd0 e;refine zR ?_;rw[hB,if_neg e1,if_neg e2,if_pos e3];exact⟨es1,rfl,h2⟩
 have e3:¬L.last=99999:=Zd1 e;refine zR ?_;refine on (h2.self.c1 rfl) ?_;(conv=>whnf)
 rw[l1];refine ob (zd (by omega)) ?_;(conv=>whnf);refine on h2.self.cells ?_;(conv=>whnf);refine ob (by simp) ?_;have h3:=h2.set { S.2.1 with last:=L.last+1 }
 obtain⟨M3,hM3⟩:∃ M3,M3=M2.setCells g T.zcn (zf3 p { S.2.1 with last:=L.last+1 }):=⟨_,rfl⟩
 rw[←hM3] at h3;(conv=>whnf)
 erw [←hM3];refine on (h3.self.c1 rfl) ?_;refine zR ?_;rw[hB,if_neg e1,if_neg e2,if_neg e3];exact⟨es1,rfl,h3⟩
def zbj (g p b:Nat) (es:FsT):Nat→Prop:=fun y=>y=g∨zac p b es y
theorem LogAt.full {L:zaE} (h:LogAt M0 M g p b D es L) {y:Nat} (hy:zbj g p b es y):M y≠none:=by
 rcases hy with rfl|hy
 ·have:=h.self;unfold Mem.has at this;rw[this];simp
 ·exact h.disk.at'.full hy
theorem LogAt.mono {M1:Mem} {L:zaE} (h:LogAt M1 M g p b D es L) (hle:M0.le M1):LogAt M0 M g p b D es L:=⟨h.disk.mono hle,h.self,by
 cases e:M0 g with
 | none=>rfl
 | some z=>have:=hle _ _ e;rw[h.fresh] at this;cases this⟩
theorem LogAt.base {L:zaE} (h:LogAt M0 M g p b D es L):LogAt (M.minus (zbj g p b es)) M g p b D es L∧M0.le (M.minus (zbj g p b es)):=by
 refine⟨⟨⟨Mem.minus_le _ _,h.disk.at',h.disk.rel,h.disk.inv,fun y hy=>Mem.minus_in (.inr hy)⟩,h.self,Mem.minus_in (.inl rfl)⟩,Mem.le_minus h.disk.le fun y hy=>?_⟩;rcases hy with rfl|hy
 ·exact h.fresh
 ·exact h.disk.fresh y hy
theorem zze {L:zaE} (h:LogAt M0 M g p b D es L) (hl:L.last≤99999) (hl1:1≤L.last) (hsz:0≤L.size∧L.size≤1048576) {a:Option Addr} {n c:Nat} {q:List UInt8} (hs:SrcOk M 1 a n (q.map zl)) (hn:n≤2097152) (hnc:n≤c) (hlen:zc8 D L.last≤1048576) :
  CallsM Tryz.prog F.ze5 [ptr g,.slice a n c] M fun v M'=>∃ es',v = .int .i64 (zaf D L q).2.2∧LogAt M0 M' g p b (zaf D L q).1 es' (zaf D L q).2.1:=by
 refine zoH (by simp) ?_;refine zR ?_;refine(znV h.self).mono ?_;rintro v _ ⟨rfl,rfl⟩;(conv=>whnf);refine brn (fun e=>?_) (fun e=>?_)
 ·have hf:L.failed=true:=by
   cases hf:L.failed
   ·rw[hf] at e;exact absurd e (by decide)
   ·rfl
  refine zR ?_;rw[if_pos hf,show zaf D L q=(D,L,7) by simp[zaf,hf]];exact⟨es,rfl,h⟩
 have hf:¬L.failed=true:=fun hf=>by rw[if_pos hf] at e;exact absurd e (by decide)
 refine zR ?_;refine(zD6 hs hn hnc).mono ?_;rintro v M1 (⟨he,rfl,rfl⟩|⟨he,a',n',c',hn',rfl,hN⟩)
 ·(conv=>whnf);refine brn_t (by simpa using he) ?_;refine zR ?_;rw[show zaf D L q=(D,L,zgf q) by simp[zaf,hf,he]];exact⟨es,rfl,h⟩
 have h1:=h.to hN.le;have hsB:=hN.src
 have hql:(zap q).length=8+q.length:=zea q;have hqn:=hs.maplen
 refine zR ?_;refine on (h1.self.c1 rfl) ?_;refine zR ?_;refine(zme h1.disk).mono ?_;rintro v _ ⟨rfl,rfl⟩;cases hd:D.down
 case true=>
  refine zR ?_;refine(zgF h1 9).mono ?_;rintro v M2 ⟨rfl,h2⟩;refine zR ?_;rw[show zaf D L q=(D,zcq L 9,9) by simp[zaf,hf,he,hd]];exact⟨es,rfl,h2⟩
 refine zR ?_;refine on (h1.self.c1 rfl) ?_;refine zR ?_;refine(znW h1 L.last).mono ?_;rintro v M2 ⟨rfl,hle2⟩;have h2:=h1.to hle2
 have hA:¬(zbN D L (zap q).length).2.2≠0→zaf D L q=((zW (zbN D L (zap q).length).1 (zc (zbN D L (zap q).length).2.1.last) (zap q)).1,
  zcq (zbN D L (zap q).length).2.1 (zW (zbN D L (zap q).length).1 (zc (zbN D L (zap q).length).2.1.last) (zap q)).2,
  (zW (zbN D L (zap q).length).1 (zc (zbN D L (zap q).length).2.1.last) (zap q)).2):=fun e0=>by
  unfold zaf;rw[if_neg hf,if_neg (by simp[he]),if_neg (by simp[hd]),if_neg e0]
 have hsM:SrcOk (M2.minus (zbj g p b es)) 1 a' n' ((zap q).map zl):=(hsB.le hle2).minus fun z hz hb=>h.full hb (hN.block hz).1
 (conv=>whnf);refine brn (fun e=>?_) (fun e=>?_)
 ·have e1:0<zc8 D L.last:=by have:=Zd0 e;omega
  refine zR ?_;refine on (h2.self.c1 rfl) ?_;(conv=>whnf);refine ob (zd (by omega)) ?_;(conv=>whnf);refine brn (fun e=>?_) (fun e=>?_)
  ·have e2:L.size - zc8 D L.last<(zap q).length:=by have:=Zd0 e;omega
   have hfu:zzd D L (zap q).length:=⟨e1,e2⟩
   have hRe:zbN D L (zap q).length=((beginL D L).1,(beginL D L).2.1,(beginL D L).2.2.2):=by unfold zbN;rw[if_pos hfu]
   refine zR ?_;refine(ztk h2.base.1 hl hl1).mono ?_;rintro v M3 ⟨es3,rfl,h3b⟩;have hs3:=hsM.le h3b.disk.le
   have h3:=h3b.mono h2.base.2;(conv=>whnf);refine brn (fun e=>?_) (fun e=>?_)
   ·have e3:(beginL D L).2.2.2≠0:=by simpa using e
    refine zR ?_;rw[show zaf D L q=zbN D L (zap q).length by unfold zaf;rw[if_neg hf,if_neg (by simp[he]),if_neg (by simp[hd]),if_pos (by rw[hRe];exact e3)],hRe];exact⟨es3,rfl,h3⟩
   ·have e3:(beginL D L).2.2.2=0:=by simpa using e
    refine zR ?_;refine on (h3.self.c1 rfl) ?_;(conv=>whnf);refine on (h3.self.c1 rfl) ?_;refine zR ?_;refine(zei _).mono ?_;rintro v M4 ⟨rfl,hle4⟩;have h4:=h3.to hle4
    refine zT (hle4) ?_;refine zR ?_;refine(zof h4.disk.base.1 (zeX _) (hs3.le hle4)).mono ?_;rintro v M5 ⟨es5,rfl,h5⟩;have h5':=h4.call h5
    refine zR ?_;refine(zgF h5' _).mono ?_;rintro v M6 ⟨rfl,h6⟩;refine zR ?_;rw[hA (by rw[hRe];exact fun h=>h e3),hRe];exact⟨es5,rfl,h6⟩
  ·have e2:¬L.size - zc8 D L.last<(zap q).length:=by have:=Zd1 e;omega
   have hRe:zbN D L (zap q).length=(D,L,0):=by unfold zbN;rw[if_neg (fun h=>e2 h.2)]
   have e3:(0:Int)=0:=rfl
   rename Mem=>M3
   have h3:=h2;have hs3:=hsB.le hle2
   refine zR ?_;refine on (h3.self.c1 rfl) ?_;(conv=>whnf);refine on (h3.self.c1 rfl) ?_;refine zR ?_;refine(zei _).mono ?_;rintro v M4 ⟨rfl,hle4⟩;have h4:=h3.to hle4
   refine zT (hle4) ?_;refine zR ?_;refine(zof h4.disk.base.1 (zeX _) (hs3.le hle4)).mono ?_;rintro v M5 ⟨es5,rfl,h5⟩;have h5':=h4.call h5
   refine zR ?_;refine(zgF h5' _).mono ?_;rintro v M6 ⟨rfl,h6⟩;refine zR ?_;rw[hA (by rw[hRe];exact fun h=>h e3),hRe];exact⟨es5,rfl,h6⟩
 ·have e1:¬0<zc8 D L.last:=by have:=Zd1 e;omega
  have hRe:zbN D L (zap q).length=(D,L,0):=by unfold zbN;rw[if_neg (fun h=>e1 h.1)]
  have e3:(0:Int)=0:=rfl
  rename Mem=>M3
  have h3:=h2;have hs3:=hsB.le hle2
  refine zR ?_;refine on (h3.self.c1 rfl) ?_;(conv=>whnf);refine on (h3.self.c1 rfl) ?_;refine zR ?_;refine(zei _).mono ?_;rintro v M4 ⟨rfl,hle4⟩;have h4:=h3.to hle4
  refine zT (hle4) ?_;refine zR ?_;refine(zof h4.disk.base.1 (zeX _) (hs3.le hle4)).mono ?_;rintro v M5 ⟨es5,rfl,h5⟩;have h5':=h4.call h5
  refine zR ?_;refine(zgF h5' _).mono ?_;rintro v M6 ⟨rfl,h6⟩;refine zR ?_;rw[hA (by rw[hRe];exact fun h=>h e3),hRe];exact⟨es5,rfl,h6⟩
end
section
variable {M M0:Mem} {g p b:Nat} {D:zf} {es:FsT}
def zbI (s:ByteArray):Int:=if s.size=6∧((s.toList.getD 0 0).toNat:Int)=119 then ((bl s).drop 1).foldl (fun a c=>10*a+((c.toNat:Int) - 48)) 0 else 0
theorem zfl {s:ByteArray} (h:zfu s):zbI s=0:=if_neg fun ⟨a,b⟩=>h.elim (fun h=>h a) fun h=>h b
theorem zbU {k:Int} (h:¬(k<1∨99999<k)):zbI (zc k)=k:=by
 rw[zfD h,zbI,if_pos ⟨rfl,by rw[ziY];rfl⟩];have hnn:0≤k:=by omega
 have a1:kk k 1=k / 10:=by show (kk k 0).tdiv 10=_;rw[Int.tdiv_eq_ediv_of_nonneg (zf1 hnn 0)];rfl
 have a2:kk k 2=k / 100:=by show (kk k 1).tdiv 10=_;rw[Int.tdiv_eq_ediv_of_nonneg (zf1 hnn 1),a1];omega
 have a3:kk k 3=k / 1000:=by show (kk k 2).tdiv 10=_;rw[Int.tdiv_eq_ediv_of_nonneg (zf1 hnn 2),a2];omega
 have a4:kk k 4=k / 10000:=by show (kk k 3).tdiv 10=_;rw[Int.tdiv_eq_ediv_of_nonneg (zf1 hnn 3),a3];omega
 have a0:kk k 0=k:=rfl;have d0:=zbx hnn 0
 have d1:=zbx hnn 1;have d2:=zbx hnn 2
 have d3:=zbx hnn 3;have d4:=zbx hnn 4
 show 10*(10*(10*(10*(10*0+(((dgB k 4).toNat:Int) - 48))+(((dgB k 3).toNat:Int) - 48))+(((dgB k 2).toNat:Int) - 48))+(((dgB k 1).toNat:Int) - 48))+(((dgB k 0).toNat:Int) - 48)=k;omega
theorem zjS {j k:Int} (hj:¬(j<1∨99999<j)) (hk:¬(k<1∨99999<k)) (h:zc j=zc k):j=k:=by rw[←zbU hj,←zbU hk,h]
def NamesW (D:zf):Prop:=∀ f∈D.l,(∃ k:Int,¬(k<1∨99999<k)∧f.name=zc k)∨zfu f.name
theorem NamesW.num (h:NamesW D) {f:FileR} (hf:f∈D.l):(¬(zbI f.name<1∨99999<zbI f.name)∧f.name=zc (zbI f.name))∨(zfu f.name∧zbI f.name=0):=by
 rcases h f hf with ⟨k,h1,h2⟩|h1
 ·rw[h2,zbU h1];exact .inl ⟨h1,rfl⟩
 ·exact .inr ⟨h1,zfl h1⟩
def zaW (D:zf) (pick:Int→Bool):List Int:=(D.l.map fun f=>zbI f.name).filter fun k=>decide (0<k)&&pick k
theorem zoh {L:zaE} (h:LogAt M0 M g p b D es L) (hW:NamesW D) {gf:Nat} {cv:Value} {pick:Int→Bool}
  (hp:∀ M',M.le M'→∀ k:Int,CallsM Tryz.prog gf [.int .i64 k,cv] M' fun v M''=>v = .bool (pick k)∧M'.le M'') :
  CallsM Tryz.prog F.zcJ [ptr g,.func (.func gf) #[] #[cv]] M fun v M'=>∃ a n c,v = .slice a n c∧n=(zaW D pick).length∧NewSl M T.zr 1 a n c ((zaW D pick).map zaa) M':=by
 refine zhu (by simp) ?_;refine zR ?_;refine on (h.self.c1 rfl) ?_;refine zR ?_;refine(zjQ h.disk.at' h.disk.rel h.disk.inv).mono ?_;rintro v M1 ⟨na,nc,rfl,hNm⟩;have hln:=h.disk.inv.len
 (conv=>whnf)
 refine za6 (σ:=Nat×Mem×Option Addr×Nat×List Int) [15,5] (fun y=>[(15,.int .i64 y.1),(5,.slice y.2.2.1 y.2.2.2.2.length y.2.2.2.1)]) (fun _=>[]) (fun y=>y.2.1)
  (fun|⟨i,Mc,a,c,out⟩=>i≤D.l.length∧NewSl M1 T.zr 1 a out.length c (out.map zaa) Mc∧out=((D.l.take i).map fun f=>zbI f.name).filter (fun k=>decide (0<k)&&pick k)∧out.length≤i) (fun y=>D.l.length - y.1) ⟨0,M1,none,0,[]⟩ ⟨by omega,NewSl.none M1 T.zr 1,by simp,by simp⟩ zS ?_
 rintro ⟨i,Mc,a,c,out⟩ ⟨hi,hN,hout,hol⟩;(conv=>whnf);refine brn (fun e=>?_) (fun e=>?_)
 ·have hlt:i<D.l.length:=by have:=Zd0 e;dsimp only at this;omega
  obtain⟨hk1,b1,o1,e1,hr1⟩:=(hNm.src.le hN.le).at (i:=i) hlt;have hx:D.l[i]? = some D.l[i]:=List.getElem?_eq_getElem hlt
  have hnm:(D.l.map (·.name))[i]=D.l[i].name:=by simp
  rw[hnm] at hr1;have hnum:=hW.num (List.mem_of_getElem? hx)
  have htk:((D.l.take (i+1)).map fun f=>zbI f.name).filter (fun k=>decide (0<k)&&pick k)=((D.l.take i).map fun f=>zbI f.name).filter (fun k=>decide (0<k)&&pick k)++(if (decide (0<zbI D.l[i].name)&&pick (zbI D.l[i].name))=true then [zbI D.l[i].name] else []):=by
   rw[List.take_add_one,hx,List.map_append,List.filter_append];congr 1;cases hpk:(decide (0<zbI D.l[i].name)&&pick (zbI D.l[i].name))<;>simp[hpk]
  generalize D.l[i]=f at *;rcases hnum with ⟨hnk,hnn⟩|⟨hno,hn0⟩
  rotate_left
  ·rw[hn0,if_neg (by simp),List.append_nil] at htk;(conv=>whnf);refine ob (by first|omega|(dsimp only;omega)) ?_;(conv=>whnf);refine atp e1 ?_;(conv=>whnf);refine on hr1 ?_;refine zR ?_;refine(zpc hno).mono ?_;rintro v _ ⟨rfl,rfl⟩;refine zR ?_;refine ob (zd (by first|omega|(dsimp only;omega))) ?_;(conv=>whnf)
   exact⟨⟨i+1,Mc,a,c,out⟩,⟨by omega,hN,by rw[htk,hout],by omega⟩,by dsimp only;omega,zS⟩
  generalize hkk:zbI f.name=k at *;rw[hnn] at hr1;have hkp:decide (0<k)=true:=decide_eq_true (by omega)
  rw[hkp,Bool.true_and] at htk;(conv=>whnf);refine ob (by first|omega|(dsimp only;omega)) ?_;(conv=>whnf);refine atp e1 ?_;(conv=>whnf);refine on hr1 ?_;refine zR ?_;refine(ztj k hnk).mono ?_;rintro v M2 ⟨rfl,hle2⟩;(conv=>whnf);refine brn_t (decide_eq_true (by omega)) ?_;refine zR ?_;refine(hp M2 (Mem.le_trans hNm.le (Mem.le_trans hN.le hle2)) k).mono ?_;rintro v M3 ⟨rfl,hle3⟩;have hN3:=(hN.up hle2).up hle3
  cases hpk:pick k
  case true=>
   rw[hpk,if_pos rfl] at htk;refine zR ?_;refine ze6 M1 _ hN3 (by first|omega|(dsimp only;omega)) (by simp[maxLen];omega) (by simp[Value.oneCell']) fun a4 c4 M4 hN4=>?_
   (conv=>whnf);refine ob (zd (by first|omega|(dsimp only;omega))) ?_;(conv=>whnf)
   refine⟨⟨i+1,M4,a4,c4,out++[k]⟩,⟨by omega,by simpa using hN4,by rw[htk,hout],by simp;omega⟩,by dsimp only;omega,?_⟩;rw[List.length_append];exact zS
  case false=>
   rw[hpk,if_neg (by decide),List.append_nil] at htk;refine zR ?_;refine ob (zd (by first|omega|(dsimp only;omega))) ?_;(conv=>whnf)
   exact⟨⟨i+1,M3,a,c,out⟩,⟨by omega,hN3,by rw[htk,hout],by omega⟩,by dsimp only;omega,zS⟩
 ·have hge:i=D.l.length:=by have:=Zd1 e;dsimp only at this;omega
  subst hge;rw[List.take_length] at hout;refine zR ?_;exact⟨a,out.length,c,rfl,by rw[hout];rfl,by rw[show zaW D pick=out from hout.symm];exact hN.mono hNm.le⟩
theorem zBz {L:zaE} (h:LogAt M0 M g p b D es L) (hW:NamesW D) {gf:Nat} {cv cw:Value} {pick:Int→Bool}
  (hp:∀ M',M.le M'→∀ k:Int,CallsM Tryz.prog gf [.int .i64 k,cv,cw] M' fun v M''=>v = .bool (pick k)∧M'.le M'') :
  CallsM Tryz.prog F.zcJ [ptr g,.func (.func gf) #[] #[cv,cw]] M fun v M'=>∃ a n c,v = .slice a n c∧n=(zaW D pick).length∧NewSl M T.zr 1 a n c ((zaW D pick).map zaa) M':=by
 refine zhu (by simp) ?_;refine zR ?_;refine on (h.self.c1 rfl) ?_;refine zR ?_;refine(zjQ h.disk.at' h.disk.rel h.disk.inv).mono ?_;rintro v M1 ⟨na,nc,rfl,hNm⟩;have hln:=h.disk.inv.len
 (conv=>whnf)
 refine za6 (σ:=Nat×Mem×Option Addr×Nat×List Int) [15,5] (fun y=>[(15,.int .i64 y.1),(5,.slice y.2.2.1 y.2.2.2.2.length y.2.2.2.1)]) (fun _=>[]) (fun y=>y.2.1)
  (fun|⟨i,Mc,a,c,out⟩=>i≤D.l.length∧NewSl M1 T.zr 1 a out.length c (out.map zaa) Mc∧out=((D.l.take i).map fun f=>zbI f.name).filter (fun k=>decide (0<k)&&pick k)∧out.length≤i) (fun y=>D.l.length - y.1) ⟨0,M1,none,0,[]⟩ ⟨by omega,NewSl.none M1 T.zr 1,by simp,by simp⟩ zS ?_
 rintro ⟨i,Mc,a,c,out⟩ ⟨hi,hN,hout,hol⟩;(conv=>whnf);refine brn (fun e=>?_) (fun e=>?_)
 ·have hlt:i<D.l.length:=by have:=Zd0 e;dsimp only at this;omega
  obtain⟨hk1,b1,o1,e1,hr1⟩:=(hNm.src.le hN.le).at (i:=i) hlt;have hx:D.l[i]? = some D.l[i]:=List.getElem?_eq_getElem hlt
  have hnm:(D.l.map (·.name))[i]=D.l[i].name:=by simp
  rw[hnm] at hr1;have hnum:=hW.num (List.mem_of_getElem? hx)
  have htk:((D.l.take (i+1)).map fun f=>zbI f.name).filter (fun k=>decide (0<k)&&pick k)=((D.l.take i).map fun f=>zbI f.name).filter (fun k=>decide (0<k)&&pick k)++(if (decide (0<zbI D.l[i].name)&&pick (zbI D.l[i].name))=true then [zbI D.l[i].name] else []):=by
   rw[List.take_add_one,hx,List.map_append,List.filter_append];congr 1;cases hpk:(decide (0<zbI D.l[i].name)&&pick (zbI D.l[i].name))<;>simp[hpk]
  generalize D.l[i]=f at *;rcases hnum with ⟨hnk,hnn⟩|⟨hno,hn0⟩
  rotate_left
  ·rw[hn0,if_neg (by simp),List.append_nil] at htk;(conv=>whnf);refine ob (by first|omega|(dsimp only;omega)) ?_;(conv=>whnf);refine atp e1 ?_;(conv=>whnf);refine on hr1 ?_;refine zR ?_;refine(zpc hno).mono ?_;rintro v _ ⟨rfl,rfl⟩;refine zR ?_;refine ob (zd (by first|omega|(dsimp only;omega))) ?_;(conv=>whnf)
   exact⟨⟨i+1,Mc,a,c,out⟩,⟨by omega,hN,by rw[htk,hout],by omega⟩,by dsimp only;omega,zS⟩
  generalize hkk:zbI f.name=k at *;rw[hnn] at hr1;have hkp:decide (0<k)=true:=decide_eq_true (by omega)
  rw[hkp,Bool.true_and] at htk;(conv=>whnf);refine ob (by first|omega|(dsimp only;omega)) ?_;(conv=>whnf);refine atp e1 ?_;(conv=>whnf);refine on hr1 ?_;refine zR ?_;refine(ztj k hnk).mono ?_;rintro v M2 ⟨rfl,hle2⟩;(conv=>whnf);refine brn_t (decide_eq_true (by omega)) ?_;refine zR ?_;refine(hp M2 (Mem.le_trans hNm.le (Mem.le_trans hN.le hle2)) k).mono ?_;rintro v M3 ⟨rfl,hle3⟩;have hN3:=(hN.up hle2).up hle3
  cases hpk:pick k
  case true=>
   rw[hpk,if_pos rfl] at htk;refine zR ?_;refine ze6 M1 _ hN3 (by first|omega|(dsimp only;omega)) (by simp[maxLen];omega) (by simp[Value.oneCell']) fun a4 c4 M4 hN4=>?_
   (conv=>whnf);refine ob (zd (by first|omega|(dsimp only;omega))) ?_;(conv=>whnf)
   refine⟨⟨i+1,M4,a4,c4,out++[k]⟩,⟨by omega,by simpa using hN4,by rw[htk,hout],by simp;omega⟩,by dsimp only;omega,?_⟩;rw[List.length_append];exact zS
  case false=>
   rw[hpk,if_neg (by decide),List.append_nil] at htk;refine zR ?_;refine ob (zd (by first|omega|(dsimp only;omega))) ?_;(conv=>whnf)
   exact⟨⟨i+1,M3,a,c,out⟩,⟨by omega,hN3,by rw[htk,hout],by omega⟩,by dsimp only;omega,zS⟩
 ·have hge:i=D.l.length:=by have:=Zd1 e;dsimp only at this;omega
  subst hge;rw[List.take_length] at hout;refine zR ?_;exact⟨a,out.length,c,rfl,by rw[hout];rfl,by rw[show zaW D pick=out from hout.symm];exact hN.mono hNm.le⟩
end
section
variable {M M0:Mem} {g p b:Nat} {D:zf} {es:FsT}
def removeAll (D:zf):List Int→zf×Int
 | []=>(D,0)
 | k::r=>if (zC D (zc k)).2≠0 then zC D (zc k) else removeAll (zC D (zc k)).1 r
theorem zhj {L:zaE} (h:LogAt M0 M g p b D es L) {a:Option Addr} {n c:Nat} {ks:List Int} (hs:SrcOk M0 1 a n (ks.map zaa)) (hn:n≤1000000) :
  CallsM Tryz.prog F.zd7 [ptr g,.slice a n c] M fun v M'=>∃ es',v = .int .i64 (removeAll D ks).2∧LogAt M0 M' g p b (removeAll D ks).1 es' L:=by
 refine zoM (by simp) ?_;have hkl:=hs.maplen
 (conv=>whnf)
 refine za6 (σ:=Nat×Mem×zf×FsT) [10] (fun y=>[(10,.int .i64 y.1)]) (fun _=>[]) (fun y=>y.2.1)
  (fun|⟨i,Mc,Dc,ec⟩=>i≤n∧LogAt M0 Mc g p b Dc ec L∧removeAll D ks=removeAll Dc (ks.drop i)) (fun y=>n - y.1) ⟨0,M,D,es⟩ ⟨by omega,h,rfl⟩ zS ?_
 rintro ⟨i,Mc,Dc,ec⟩ ⟨hi,hL,hrm⟩;(conv=>whnf);refine brn (fun e=>?_) (fun e=>?_)
 ·have hlt:i<n:=by have:=Zd0 e;dsimp only at this;omega
  obtain⟨hk1,b1,o1,e1,hr1⟩:=(hs.le hL.disk.le).at hlt;rw[List.drop_eq_getElem_cons hk1] at hrm;generalize ks[i]=k at *;(conv=>whnf);refine ob (by first|omega|(dsimp only;omega)) ?_;(conv=>whnf);refine atp e1 ?_;(conv=>whnf);refine on hr1 ?_;refine zR ?_;refine on (hL.self.c1 rfl) ?_;refine zR ?_;refine(zei k).mono ?_;rintro v M1 ⟨rfl,hle1⟩;have h1:=hL.to hle1
  refine zT (hle1) ?_;refine zR ?_;refine(zsT h1.disk.base.1 (zeX k)).mono ?_;rintro v M2 ⟨es2,rfl,h2⟩;have h2':=h1.call h2
  (conv=>whnf);refine brn (fun e=>?_) (fun e=>?_)
  ·have e2:(zC Dc (zc k)).2≠0:=by simpa using e
   refine zR ?_;rw[hrm,removeAll,if_pos e2];exact⟨es2,rfl,h2'⟩
  ·have e2:¬(zC Dc (zc k)).2≠0:=by simpa using e
   rw[removeAll,if_neg e2] at hrm;refine zR ?_;refine ob (zd (by first|omega|(dsimp only;omega))) ?_;(conv=>whnf)
   exact⟨⟨i+1,M2,_,es2⟩,⟨by omega,h2',hrm⟩,by dsimp only;omega,zS⟩
 ·have hge:i=n:=by have:=Zd1 e;dsimp only at this;omega
  subst hge;rw[List.drop_of_length_le (by omega),removeAll] at hrm;refine zR ?_;rw[hrm];exact⟨ec,rfl,hL⟩
theorem zBA {L:zaE} {bx:Nat} (hb:M.has bx T.zbQ [ptr g]) (h:M.has g T.zcn (zf3 p L)):∀ M',M.le M'→∀ k:Int,CallsM Tryz.prog F.zgD [.int .i64 k,ptr bx] M' fun v M''=>v = .bool (decide (k<L.first))∧M'.le M'':=fun M' hle k=>by
 refine zoO (by simp) ?_;refine zR ?_;refine on ((hb.le hle).c1 rfl) ?_;(conv=>whnf);refine on ((h.le hle).c1 rfl) ?_;refine zR ?_;exact⟨rfl,Mem.le_refl _⟩
theorem zqo {bx:Nat} {n:Int} (hb:M.has bx T.zr [.int .i64 n]):∀ M',M.le M'→∀ k:Int,CallsM Tryz.prog F.zgE [.int .i64 k,ptr bx] M' fun v M''=>v = .bool (decide (n≤k))∧M'.le M'':=fun M' hle k=>by
 refine zoP (by simp) ?_;refine zR ?_;refine on ((hb.le hle).c1 rfl) ?_;refine zR ?_;exact⟨rfl,Mem.le_refl _⟩
end
section
variable {M:Mem}
theorem zlc {B:Mem} {a:Option Addr} {n c:Nat} {ks:List Int} (h:NewSl B T.zr 1 a n c (ks.map zaa) M) (hn:n≤1000000) :
  CallsM Tryz.prog F.zd8 [.slice a n c] M fun v M'=>v = .tuple #[]∧NewSl B T.zr 1 a n c (ks.reverse.map zaa) M'∧Mem.keep (z6 a) M M':=by
 refine ziT (by simp) ?_;have hkl:=h.src.maplen
 refine zR ?_;refine ob (zd (by first|omega|(dsimp only;omega))) ?_;(conv=>whnf)
 refine za6 (σ:=Nat×Mem×List Int) [2,3] (fun y=>[(2,.int .i64 y.1),(3,.int .i64 (n - 1 - y.1))]) (fun _=>[]) (fun y=>y.2.1)
  (fun|⟨i,Mc,cur⟩=>2*i≤n+1∧NewSl B T.zr 1 a n c (cur.map zaa) Mc∧Mem.keep (z6 a) M Mc∧∀ x y,x+y+1=n→cur[x]? = if x<i∨y<i then ks[y]? else ks[x]?) (fun y=>n - y.1) ⟨0,M,ks⟩ ⟨by omega,h,Mem.keep_refl _ _,fun x y _=>by simp⟩ ?_ ?_
 ·dsimp only;rw[show (n:Int) - 1 - ((0:Nat):Int)=n - 1 by omega];exact zS
 rintro ⟨i,Mc,cur⟩ ⟨hi,hN,hk,hc⟩;have hcl:=hN.src.maplen
 (conv=>whnf);refine brn (fun e=>?_) (fun e=>?_)
 ·have hlt:2*i+1<n:=by have:=Zd0 e;dsimp only at this;omega
  obtain⟨j,hj⟩:∃ j,j=n - 1 - i:=⟨_,rfl⟩
  have hjI:(n:Int) - 1 - (i:Int)=(j:Int):=by omega
  obtain⟨hi1,b1,o1,e1,hr1⟩:=hN.src.at (i:=i) (by omega);obtain⟨hj1,b2,o2,e2,hr2⟩:=hN.src.at (i:=j) (by omega);rw[e1] at e2;simp only[Option.some.injEq,Addr.mk.injEq,and_true] at e2;obtain⟨rfl,rfl⟩:=e2;obtain⟨b3,cs3,e3,hb3,hcell3,hlen3,hst3⟩:=hN.store1 (j:=i) (by omega);rw[e1] at e3;simp only[Option.some.injEq,Addr.mk.injEq,and_true] at e3;obtain⟨rfl,rfl⟩:=e3;obtain⟨hN4,hk4⟩:=hst3 cur[j];obtain⟨M4,hM4⟩:∃ M4,M4=Mc.setCells b1 T.zr (ze cs3 (0+i*1) [zaa cur[j]]):=⟨_,rfl⟩
  rw[←hM4] at hN4 hk4;obtain⟨b5,cs5,e5,hb5,hcell5,hlen5,hst5⟩:=hN4.store1 (j:=j) (by omega);rw[e1] at e5;simp only[Option.some.injEq,Addr.mk.injEq,and_true] at e5;obtain⟨rfl, -⟩:=e5;obtain⟨hN6,hk6⟩:=hst5 cur[i];dsimp only;rw[hjI];(conv=>whnf);refine ob (by first|omega|(dsimp only;omega)) ?_;(conv=>whnf);refine atp e1 ?_;(conv=>whnf);refine on hr2 ?_;(conv=>whnf);refine ob (by first|omega|(dsimp only;omega)) ?_;(conv=>whnf);refine atp e1 ?_;(conv=>whnf);refine on hr1 ?_;(conv=>whnf);refine ob (by first|omega|(dsimp only;omega)) ?_;(conv=>whnf);refine atp e1 ?_;refine zR ?_;refine on hcell3 ?_;(conv=>whnf);refine ob (by simpa using hlen3) ?_;(conv=>whnf)
  erw [←hM4];refine zR ?_;refine ob (by first|omega|(dsimp only;omega)) ?_;(conv=>whnf);refine atp e1 ?_;refine zR ?_;refine on hcell5 ?_;(conv=>whnf);refine ob (by simpa using hlen5) ?_;refine zR ?_;refine ob (zd (by first|omega|(dsimp only;omega))) ?_;(conv=>whnf);refine ob (zd (by first|omega|(dsimp only;omega))) ?_;(conv=>whnf)
  refine⟨⟨i+1,_,(cur.set i cur[j]).set j cur[i]⟩,⟨by omega,hN6,Mem.keep_trans hk (Mem.keep_trans hk4 hk6),fun x y hxy=>?_⟩,by dsimp only;omega,?_⟩
  ·have h1:=hc x y hxy;have h2:=hc i j (by omega)
   have h3:=hc j i (by omega);rw[List.getElem?_eq_getElem hi1] at h2;rw[List.getElem?_eq_getElem hj1] at h3;rw[if_neg (by omega)] at h2 h3;by_cases ex:x=j
   ·subst ex;have ey:y=i:=by omega
    subst ey;rw[List.getElem?_set_self (by simpa using hj1),if_pos (.inr (by omega)),h2]
   ·rw[List.getElem?_set_ne (Ne.symm ex)];by_cases ex2:x=i
    ·subst ex2;have ey:y=j:=by omega
     subst ey;rw[List.getElem?_set_self hi1,if_pos (.inl (by omega)),h3]
    ·rw[List.getElem?_set_ne (Ne.symm ex2),h1];have:(x<i∨y<i)↔(x<i+1∨y<i+1):=by omega
     by_cases hh:x<i∨y<i
     ·rw[if_pos hh,if_pos (this.1 hh)]
     ·rw[if_neg hh,if_neg (fun h=>hh (this.2 h))]
  ·dsimp only;rw[show (n:Int) - 1 - ((i+1:Nat):Int)=(j:Int) - 1 by omega];exact zS
 ·have hge:n≤2*i+1:=by have:=Zd1 e;dsimp only at this;omega
  have hrev:cur=ks.reverse:=by
   apply List.ext_getElem?;intro x;by_cases hx:x<n
   ·have h1:=hc x (n - 1 - x) (by omega);rw[h1,List.getElem?_reverse (by omega),hkl];split
    ·rfl
    ·have:x=n - 1 - x:=by omega
     rw[←this]
   ·rw[List.getElem?_eq_none (by omega),List.getElem?_eq_none (by simp;omega)]
  refine zR ?_;exact⟨rfl,hrev▸hN,hk⟩
end
end Go.Proofs.YtpdkkbpkplhdpaaGreat
