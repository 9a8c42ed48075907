/- Part of this proof;laid by program. -/
import Derived.Test.YtpdkkbpkplhdpaaGreatJ13
import Derived.Test.YtpdkkbpkplhdpaaGreatJ12
set_option linter.unusedVariables false
set_option linter.unusedSimpArgs false
namespace Go.Proofs.YtpdkkbpkplhdpaaGreat
open Go Go.Vm
attribute [local irreducible] Brn Ob Grow CallsM inR zaD zaC Mem.row Mem.cells Mem.setCells Mem.upd Go.Vm.Own zaG za7 za9 zaR New SrcOk subA NewSl Mem.textAt Mem.mapAt Mem.iterAt zaB zam Wr NewEls Elems
set_option maxRecDepth 10000
variable {M M0:Mem} {p b:Nat} {D:zd} {es:FsT}
structure FreshD (M0 M:Mem) (p b:Nat) (D:zd) (es:FsT):Prop where
 le:M0.le M
 at':DAt M p b D es
 rel:RelD es D.l
 inv:InvD D
 fresh:∀ y,zab p b es y→M0 y=none
theorem FreshD.to (h:FreshD M0 M p b D es) {M':Mem} (hle:M.le M'):FreshD M0 M' p b D es:=⟨Mem.le_trans h.le hle,h.at'.le hle,h.rel,h.inv,h.fresh⟩
theorem FreshD.base (h:FreshD M0 M p b D es):FreshD (M.minus (zab p b es)) M p b D es∧M0.le (M.minus (zab p b es)):=
 ⟨⟨Mem.minus_le _ _,h.at',h.rel,h.inv,fun _ hy=>Mem.minus_in hy⟩,Mem.le_minus h.le h.fresh⟩
theorem FreshD.step (h:FreshD M0 M p b D es) {M':Mem} {es':FsT} {D':zd} (hs:StepD M M' p b es es' D') (hi:InvD D'):FreshD M0 M' p b D' es':=
 ⟨hs.keep.le h.le h.fresh,hs.at',hs.rel,hi,fun y hy=>by
  rcases hs.own y hy with h1|h1
  ·exact h.fresh y h1
  ·cases e:M0 y with
   | none=>rfl
   | some z=>rw[h.le _ _ e] at h1;cases h1⟩
theorem zDA (limit:Int):CallsM Tryz.prog F.zgx [.int .i64 limit] M fun v M'=>
  ((limit<1∨1048576<limit)∧v = .tuple #[.pointer none,.int .i64 1]∧M'=M) ∨
  (¬(limit<1∨1048576<limit)∧∃ p b,v = .tuple #[ptr p,.int .i64 0]∧FreshD M M' p b ⟨limit,[], -1,false⟩ []):=
 (zCd limit).mono fun v M' h=>by
  rcases h with h|⟨h1,p,b,h2,h3,h4,h5⟩
  ·exact .inl h
  ·exact .inr ⟨h1,p,b,h2,h3,h4,RelD.nil,zvt h1,h5⟩
theorem znO (h:FreshD M0 M p b D es) {s:ByteArray} (hs:s.size≤4611686018427387904) {a:Option Addr} {n c:Nat} {l:List UInt8} (hl:SrcOk M 1 a n (l.map zh)) :
  CallsM Tryz.prog F.zcw [ptr p,.string s,.slice a n c] M fun v M'=>∃ es',v = .int .i64 (zW D s l).2∧FreshD M0 M' p b (zW D s l).1 es':=
 (zzO h.at' h.rel h.inv s hs hl).mono fun _ _ ⟨hv,es',h'⟩=>⟨es',hv,h.step h' (zoP h.inv s l)⟩
theorem zBM (h:FreshD M0 M p b D es) {s:ByteArray} (hs:s.size≤4611686018427387904):CallsM Tryz.prog F.zc2 [ptr p,.string s] M fun v M'=>∃ es',v = .int .i64 (zba D s).2∧FreshD M0 M' p b (zba D s).1 es':=
 (zCh h.at' h.rel h.inv s hs).mono fun _ _ ⟨hv,es',h'⟩=>⟨es',hv,h.step h' (znu h.inv s)⟩
theorem zEz (h:FreshD M0 M p b D es) {s:ByteArray} (hs:s.size≤4611686018427387904) (k:Int):CallsM Tryz.prog F.ze0 [ptr p,.string s,.int .i64 k] M fun v M'=>∃ es',v = .int .i64 (zcp D s k).2∧FreshD M0 M' p b (zcp D s k).1 es':=
 (zDy h.at' h.rel h.inv s hs k).mono fun _ _ ⟨hv,es',h'⟩=>⟨es',hv,h.step h' (zvu h.inv s k)⟩
theorem zCl (h:FreshD M0 M p b D es) {s t:ByteArray} (hs:s.size≤4611686018427387904) (ht:t.size≤4611686018427387904):CallsM Tryz.prog F.zdg [ptr p,.string s,.string t] M fun v M'=>∃ es',v = .int .i64 (zay D s t).2∧FreshD M0 M' p b (zay D s t).1 es':=
 (zzR h.at' h.rel h.inv s t hs ht).mono fun _ _ ⟨hv,es',h'⟩=>⟨es',hv,h.step h' (zoQ h.inv s t)⟩
theorem zsG (h:FreshD M0 M p b D es) {s:ByteArray} (hs:s.size≤4611686018427387904):CallsM Tryz.prog F.za5 [ptr p,.string s] M fun v M'=>∃ es',v = .int .i64 (zC D s).2∧FreshD M0 M' p b (zC D s).1 es':=
 (zzQ h.at' h.rel h.inv s hs).mono fun _ _ ⟨hv,es',h'⟩=>⟨es',hv,h.step h' (zep h.inv s)⟩
theorem zEA (h:FreshD M0 M p b D es) {k:Int} (hk:k≤9223372036854775807):CallsM Tryz.prog F.zeY [ptr p,.int .i64 k] M fun v M'=>∃ es',v = .int .i64 (zfJ D k).2∧FreshD M0 M' p b (zfJ D k).1 es':=
 (zDz h.at' h.rel k).mono fun _ _ ⟨hv,h'⟩=>⟨es,hv,h.step h' (zp1 h.inv hk)⟩
theorem zxc (h:FreshD M0 M p b D es) {ka:Option Addr} {kn kc:Nat} {keep:List Int} (hk:SrcOk M0 1 ka kn (keep.map zan)) (hkn:kn≤4194304) :
  CallsM Tryz.prog F.zdp [ptr p,.slice ka kn kc] M fun v M'=>∃ es',v = .int .i64 0∧FreshD M0 M' p b (zbB D keep) es':=
 (zAU h.at' h.rel h.inv (hk.le h.base.2) hkn).mono fun _ _ ⟨hv,es',h'⟩=>⟨es',hv,h.step h' (zlB h.inv keep)⟩
theorem zyu (h:FreshD M0 M p b D es) {s:ByteArray} (hs:s.size≤4611686018427387904):CallsM Tryz.prog F.zc0 [ptr p,.string s] M fun v M'=>∃ a n c,v = .tuple #[.slice a n c,.int .i64 (zap D s).2]∧n=(bl (zap D s).1).length∧NewSl M T.zm 1 a n c ((bl (zap D s).1).map zh) M':=
 zCi h.at' h.rel h.inv s hs
def zfY (D:zd) (s:ByteArray):Nat:=match zf D.l s with|some f=>f.safe.size|none=>0
theorem zBN (h:FreshD M0 M p b D es) (s:ByteArray):CallsM Tryz.prog F.zdL [ptr p,.string s] M fun v M'=>v = .int .i64 (zfY D s)∧M=M':=
 (zCj h.at' h.rel s).mono fun _ _ ⟨hv,h'⟩=>⟨by rw[hv];unfold zfY;cases zf D.l s<;>rfl,h'⟩
end Go.Proofs.YtpdkkbpkplhdpaaGreat
namespace Go.Proofs.YtpdkkbpkplhdpaaGreat
open Go Go.Vm
theorem zrh (x:Nat) (s:Nat):(zcX (x:Int) (s:Int)).toNat=x / 2 ^ s % 256:=by
 unfold zcX
 have e:((x:Int).fdiv (2 ^ ((s:Int)).toNat))=((x / 2 ^ s:Nat):Int):=by
  rw[Int.fdiv_eq_ediv_of_nonneg _ (by exact_mod_cast Nat.zero_le (2 ^ s)),Int.toNat_natCast]
  norm_cast
 rw[e]
 have:(((x / 2 ^ s:Nat):Int) % 256).toNat=x / 2 ^ s % 256:=by omega
 rw[this]
 simp
theorem znP {x:Nat} (h:x<4294967296):num (be 4 (x:Int)) 0=x:=by
 have e:be 4 (x:Int)=[zcX (x:Int) ((24:Nat):Int),zcX (x:Int) ((16:Nat):Int),zcX (x:Int) ((8:Nat):Int),zcX (x:Int) ((0:Nat):Int)]:=rfl
 rw[e]
 simp only[num,zrh]
 omega
theorem zxd {l:List UInt8} (h:l.length=4):be 4 ((num l 0:Nat):Int)=l:=by
 match l,h with
 | [a,b,c,d],_=>
  have e:be 4 ((num [a,b,c,d] 0:Nat):Int)=[zcX ((num [a,b,c,d] 0:Nat):Int) ((24:Nat):Int),zcX ((num [a,b,c,d] 0:Nat):Int) ((16:Nat):Int),zcX ((num [a,b,c,d] 0:Nat):Int) ((8:Nat):Int),zcX ((num [a,b,c,d] 0:Nat):Int) ((0:Nat):Int)]:=rfl
  rw[e]
  have h1:=a.toNat_lt;have h2:=b.toNat_lt;have h3:=c.toNat_lt;have h4:=d.toNat_lt
  have key:∀ (s:Nat) (z:UInt8),num [a,b,c,d] 0 / 2 ^ s % 256=z.toNat→zcX ((num [a,b,c,d] 0:Nat):Int) (s:Int)=z:=fun s z hz=>by
   apply UInt8.toNat_inj.1
   rw[zrh,hz]
  simp only[List.cons.injEq,and_true]
  refine⟨key 24 a ?_,key 16 b ?_,key 8 c ?_,key 0 d ?_⟩<;>simp only[num]<;>omega
def zcI (p:List UInt8):Prop:=1≤p.length∧p.length≤65536
theorem zdP (p:List UInt8):(zak p).length=8+p.length:=by unfold zak;simp[zce];omega
theorem sum_nat (l:List UInt8):∃ q:Nat,zeo l=(q:Int)∧q<4294967296:=⟨(zeo l).toNat,by have:=zgG l;omega,by have:=zgG l;omega⟩
theorem zri {p:List UInt8} (h:zcI p) (r:List UInt8):zaM (zak p++r)=some (p,8+p.length):=by
 obtain⟨q,hq,hq2⟩:=sum_nat (be 4 p.length++p)
 have e:zak p=be 4 p.length++be 4 (q:Int)++p:=by unfold zak;rw[hq]
 have l1:(be 4 (p.length:Int)).length=4:=zce 4 _
 have l2:(be 4 (q:Int)).length=4:=zce 4 _
 have t1:(zak p++r).take 4=be 4 p.length:=by rw[e,List.append_assoc,List.append_assoc,List.take_append_of_le_length (by omega),List.take_of_length_le (by omega)]
 have t2:((zak p++r).drop 4).take 4=be 4 (q:Int):=by
  rw[e,List.append_assoc,List.append_assoc,List.drop_append_of_le_length (by omega),List.drop_of_length_le (by omega),List.nil_append,List.take_append_of_le_length (by omega),List.take_of_length_le (by omega)]
 have t3:(zak p++r).drop 8=p++r:=by
  have:(be 4 (p.length:Int)++be 4 (q:Int)).length=8:=by simp[l1,l2]
  rw[e,List.append_assoc,List.drop_append_of_le_length (by omega),List.drop_of_length_le (by omega),List.nil_append]
 have hk:num (be 4 (p.length:Int)) 0=p.length:=znP (by have:=h.2;omega)
 have hl:(zak p++r).length=8+p.length+r.length:=by rw[List.length_append,zdP]
 unfold zaM
 rw[t1,t2,t3,hk,hl,znP hq2,List.take_append_of_le_length (Nat.le_refl _),List.take_length,if_neg (by omega),if_neg (by have:=h.1;have:=h.2;omega),if_pos hq]
theorem zyv {l p:List UInt8} {k:Nat} (h:zaM l=some (p,k)):l.take k=zak p∧zcI p:=by
 obtain⟨h1,h2,h3,h4,h5⟩:=zdd h
 refine⟨?_,h3,h4⟩
 unfold zaM at h
 split at h
 ·cases h
 ·rename_i g8
  split at h
  ·cases h
  ·rename_i g
   split at h
   ·rename_i hs
    simp only[Option.some.injEq,Prod.mk.injEq] at h
    obtain⟨h6,h7⟩:=h
    have hk:num (l.take 4) 0=p.length:=by omega
    rw[h6] at hs
    have e1:be 4 ((p.length:Nat):Int)=l.take 4:=by rw[←hk];exact zxd (by rw[List.length_take];omega)
    have e2:be 4 (zeo (be 4 (p.length:Int)++p))=(l.drop 4).take 4:=by rw[e1,hs];exact zxd (by rw[List.length_take,List.length_drop];omega)
    unfold zak
    rw[e2,e1]
    have a1:l.take k=l.take 4++((l.drop 4).take 4++(l.drop 8).take p.length):=by
     have:k=4+(4+p.length):=by omega
     rw[this,List.take_add,List.take_add,List.drop_drop]
    rw[a1,←h5,List.append_assoc]
   ·cases h
theorem zvv {p:List UInt8} (h:zcI p) {k:Nat} (hk:k<8+p.length):zaM ((zak p).take k)=none:=by
 have hlen:((zak p).take k).length=k:=by rw[List.length_take,zdP];omega
 unfold zaM
 rw[hlen]
 split
 ·rfl
 ·rename_i g
  have t1:((zak p).take k).take 4=be 4 p.length:=by
   rw[List.take_take,Nat.min_eq_left (by omega)]
   unfold zak
   rw[List.append_assoc,List.take_append_of_le_length (by rw[zce];omega),List.take_of_length_le (by rw[zce];omega)]
  rw[t1,znP (by have:=h.2;omega),if_pos (.inr (.inr (by omega)))]
def za1 (ps:List (List UInt8)):List UInt8:=ps.flatMap zak
theorem zdD (ps:List (List UInt8)):(za1 ps).length=zae ps:=by
 induction ps with
 | nil=>rfl
 | cons p r ih=>simp only[za1,List.flatMap_cons,List.length_append,zdP,zae,List.map_cons,List.sum_cons] at ih ⊢; rw[ih]
theorem zi5 (ps qs:List (List UInt8)):za1 (ps++qs)=za1 ps++za1 qs:=by simp[za1]
theorem zyw {ps:List (List UInt8)} (h:∀ p∈ps,zcI p) (r:List UInt8):zaJ (za1 ps++r)=ps++zaJ r:=by
 induction ps with
 | nil=>rfl
 | cons p qs ih=>
  have e:za1 (p::qs)++r=zak p++(za1 qs++r):=by simp[za1]
  rw[e,zgI (zri (h p (by simp)) _),←zdP,List.drop_left,ih fun q hq=>h q (by simp[hq])]
  rfl
theorem zwQ {p:List UInt8} (h:zcI p) {k:Nat} (hk:k<8+p.length):zaJ ((zak p).take k)=[]:=zgH (zvv h hk)
theorem zzS {ps:List (List UInt8)} (h:∀ p∈ps,zcI p) {m:Nat} (hm:m≤zae ps):∃ j,j≤ps.length∧zaJ ((za1 ps).take m)=ps.take j∧zae (ps.take j)≤m∧∀ i,i≤ps.length→zae (ps.take i)≤m→i≤j:=by
 induction ps generalizing m with
 | nil=>exact⟨0,Nat.le_refl _,by simp[za1,zaJ,zfx],by simp[zae],fun i hi _=>by simpa using hi⟩
 | cons p qs ih=>
  have hp:=h p (by simp)
  have e:za1 (p::qs)=zak p++za1 qs:=by simp[za1]
  have el:zae (p::qs)=(8+p.length)+zae qs:=by simp[zae]
  by_cases hlt:m<8+p.length
  ·refine⟨0,Nat.zero_le _,?_,by simp[zae],fun i hi hle=>?_⟩
   ·rw[e,List.take_append_of_le_length (by rw[zdP];omega),zwQ hp hlt];rfl
   ·cases i with
    | zero=>exact Nat.le_refl _
    | succ i=>
     rw[List.take_succ_cons] at hle
     have:zae (p::qs.take i)=(8+p.length)+zae (qs.take i):=by simp[zae]
     omega
  ·obtain⟨j,h1,h2,h3,h4⟩:=ih (fun q hq=>h q (by simp[hq])) (m:=m - (8+p.length)) (by omega)
   refine⟨j+1,by simp;omega,?_,?_,fun i hi hle=>?_⟩
   ·have em:m=(zak p).length+(m - (8+p.length)):=by rw[zdP];omega
    rw[e,em,List.take_length_add_append,zgI (zri hp _),←zdP,List.drop_left]
    rw[zdP,h2];rfl
   ·rw[List.take_succ_cons]
    have:zae (p::qs.take j)=(8+p.length)+zae (qs.take j):=by simp[zae]
    omega
   ·cases i with
    | zero=>omega
    | succ i=>
     rw[List.take_succ_cons] at hle
     have:zae (p::qs.take i)=(8+p.length)+zae (qs.take i):=by simp[zae]
     have:=h4 i (by simpa using hi) (by omega)
     omega
theorem znv:∀ (m:Nat) (l:List UInt8),l.length≤m→l.take (zae (zaJ l))=za1 (zaJ l)∧(∀ p∈zaJ l,zcI p)∧zae (zaJ l)≤l.length:=by
 intro m
 induction m with
 | zero=>
  intro l hl
  have h0:zaM l=none:=by unfold zaM;rw[if_pos (by omega)]
  rw[zgH h0]
  exact⟨by simp[za1,zae],by simp,by simp[zae]⟩
 | succ m ih=>
  intro l hl
  cases hx:zaM l with
  | none=>
   rw[zgH hx]
   exact⟨by simp[za1,zae],by simp,by simp[zae]⟩
  | some q=>
   obtain⟨p,k⟩:=q
   obtain⟨h1,h2,h3, -⟩:=zdd hx
   obtain⟨h5,h6⟩:=zyv hx
   obtain⟨h7,h8,h9⟩:=ih (l.drop k) (by rw[List.length_drop];omega)
   rw[zgI hx]
   have el:zae (p::zaJ (l.drop k))=k+zae (zaJ (l.drop k)):=by simp[zae];omega
   rw[List.length_drop] at h9
   refine⟨?_,fun q hq=>?_,by omega⟩
   ·rw[el,List.take_add,h5,h7];simp[za1]
   ·rcases List.mem_cons.1 hq with rfl|hq
    ·exact h6
    ·exact h8 q hq
end Go.Proofs.YtpdkkbpkplhdpaaGreat
namespace Go.Proofs.YtpdkkbpkplhdpaaGreat
open Go Go.Vm
attribute [local irreducible] Brn Ob Grow CallsM inR zaD zaC Mem.row Mem.cells Mem.setCells Mem.upd Go.Vm.Own zaG za7 za9 zaR New SrcOk subA NewSl Mem.textAt Mem.mapAt Mem.iterAt zaB zam Wr NewEls Elems
set_option maxRecDepth 10000
section
variable {M M0:Mem} {g p b:Nat} {D:zd} {es:FsT}
structure zax where
 first:Int
 last:Int
 size:Int
 failed:Bool
def zcS (D:zd) (k:Int):Nat:=if D.down=true then zfY D (zc k) else (zap D (zc k)).1.size
def zcf (L:zax) (e:Int):zax:={ L with failed:=L.failed||decide (e=9) }
def syncL (D:zd) (L:zax):zd×zax×Int:=
 if L.failed=true then (D,L,7) else if D.down=true then (D,zcf L 9,9) else if zcS D L.last=zfY D (zc L.last) then (D,L,0)
 else ((zba D (zc L.last)).1,zcf L (zba D (zc L.last)).2,(zba D (zc L.last)).2)
def beginL (D:zd) (L:zax):zd×zax×Int×Int:=
 if (syncL D L).2.2≠0 then ((syncL D L).1,(syncL D L).2.1,0,(syncL D L).2.2)
 else if zcS (syncL D L).1 L.last=0 then ((syncL D L).1,(syncL D L).2.1,L.last,0)
 else if L.last=99999 then ((syncL D L).1,(syncL D L).2.1,0,1)
 else ((syncL D L).1,{ (syncL D L).2.1 with last:=L.last+1 },L.last+1,0)
def zyx (D:zd) (L:zax) (n:Nat):Prop:=0<zcS D L.last∧L.size - zcS D L.last<n
instance (D:zd) (L:zax) (n:Nat):Decidable (zyx D L n):=inferInstanceAs (Decidable (_∧_))
def zbC (D:zd) (L:zax) (n:Nat):zd×zax×Int:=if zyx D L n then ((beginL D L).1,(beginL D L).2.1,(beginL D L).2.2.2) else (D,L,0)
def zaf (D:zd) (L:zax) (q:List UInt8):zd×zax×Int:=
 if L.failed=true then (D,L,7) else if zfI q≠0 then (D,L,zfI q) else if D.down=true then (D,zcf L 9,9)
 else if (zbC D L (zak q).length).2.2≠0 then zbC D L (zak q).length
 else ((zW (zbC D L (zak q).length).1 (zc (zbC D L (zak q).length).2.1.last) (zak q)).1,
  zcf (zbC D L (zak q).length).2.1 (zW (zbC D L (zak q).length).1 (zc (zbC D L (zak q).length).2.1.last) (zak q)).2,
  (zW (zbC D L (zak q).length).1 (zc (zbC D L (zak q).length).2.1.last) (zak q)).2)
@[reducible] def zfC (p:Nat) (L:zax):List Value:=[ptr p,.int .i64 L.first,.int .i64 L.last,.int .i64 L.size,.bool L.failed]
structure LogAt (M0 M:Mem) (g p b:Nat) (D:zd) (es:FsT) (L:zax):Prop where
 disk:FreshD M0 M p b D es
 self:M.has g T.zcc (zfC p L)
 fresh:M0 g=none
theorem DAt.notB (h:DAt M p b D es) {g:Nat} {l:List Value} (hg:M.has g T.zcc l):¬zab p b es g:=by
 rintro (e|e|⟨q,hq,e|⟨a,ha,e⟩⟩)
 ·subst e;exact absurd (h.self.inj hg).1 (by decide)
 ·exact h.map.nb hg e
 ·subst e;exact absurd ((h.ents q hq).self.inj hg).1 (by decide)
 ·obtain⟨cs,hh⟩:=(h.ents q hq).row.block ha
  subst e
  exact absurd (hh.inj hg).1 (by decide)
theorem FreshD.mono {M1:Mem} (h:FreshD M1 M p b D es) (hle:M0.le M1):FreshD M0 M p b D es:=⟨Mem.le_trans hle h.le,h.at',h.rel,h.inv,fun y hy=>by
 cases e:M0 y with
 | none=>rfl
 | some z=>have:=hle _ _ e;rw[h.fresh y hy] at this;cases this⟩
theorem LogAt.to {L:zax} (h:LogAt M0 M g p b D es L) {M':Mem} (hle:M.le M'):LogAt M0 M' g p b D es L:=⟨h.disk.to hle,h.self.le hle,h.fresh⟩
theorem LogAt.call {L:zax} (h:LogAt M0 M g p b D es L) {M':Mem} {D':zd} {es':FsT} (h':FreshD (M.minus (zab p b es)) M' p b D' es'):LogAt M0 M' g p b D' es' L:=by
 have hg:(M.minus (zab p b es)).has g T.zcc (zfC p L):=by
  have:=h.self
  unfold Mem.has at this ⊢
  unfold Mem.minus
  rw[if_neg (h.disk.at'.notB h.self)]
  exact this
 exact⟨h'.mono h.disk.base.2,hg.le h'.le,h.fresh⟩
theorem LogAt.set {L:zax} (h:LogAt M0 M g p b D es L) (L':zax):LogAt M0 (M.setCells g T.zcc (zfC p L')) g p b D es L':=by
 have hk:Mem.keep (fun y=>y=g) M (M.setCells g T.zcc (zfC p L')):=fun y o hy ho=>by
  unfold Mem.setCells;rw[Mem.upd_ne _ _ hy];exact ho
 refine⟨⟨hk.le h.disk.le (fun y hy=>by rw[hy];exact h.fresh),h.disk.at'.mono fun y o hy ho=>hk y o (fun e=>?_) ho,h.disk.rel,h.disk.inv,h.disk.fresh⟩,Mem.has_setCells,h.fresh⟩
 rw[e] at hy
 exact h.disk.at'.notB h.self hy
theorem zeF (k:Int):(zc k).size≤4611686018427387904:=by
 unfold zc
 split
 ·show (0:Nat)≤_;decide
 ·show (6:Nat)≤_;decide
theorem znw {L:zax} (h:M.has g T.zcc (zfC p L)):CallsM Tryz.prog F.zd9 [ptr g] M fun v M'=>v = .int .i64 (if L.failed=true then 7 else 0)∧M=M':=by
 refine zpD (by simp) ?_
 obtain⟨fi,la,sz,fl⟩:=L
 cases fl
 ·refine zR ?_
  refine on (h.c1 rfl) ?_
  refine zR ?_
  exact⟨rfl,rfl⟩
 ·refine zR ?_
  refine on (h.c1 rfl) ?_
  refine zR ?_
  exact⟨rfl,rfl⟩
theorem zf7 {L:zax} (h:LogAt M0 M g p b D es L) (e:Int):CallsM Tryz.prog F.zc3 [ptr g,.int .i64 e] M fun v M'=>v = .int .i64 e∧LogAt M0 M' g p b D es (zcf L e):=by
 refine zqX (by simp) ?_
 have h':=h.set (zcf L e)
 have hs:=h.self
 clear h
 obtain⟨fi,la,sz,fl⟩:=L
 cases fl
 ·refine zR ?_
  refine on (hs.c1 rfl) ?_
  refine zR ?_
  refine on hs.cells ?_
  (conv=>whnf);refine ob (by simp) ?_
  refine zR ?_
  exact⟨rfl,h'⟩
 ·refine zR ?_
  refine on (hs.c1 rfl) ?_
  refine zR ?_
  refine on hs.cells ?_
  (conv=>whnf);refine ob (by simp) ?_
  refine zR ?_
  exact⟨rfl,h'⟩
theorem zlC (h:FreshD M0 M p b D es):CallsM Tryz.prog F.zcn [ptr p] M fun v M'=>v = .bool D.down∧M=M':=zCk h.at'
theorem zzT (D:zd) (s:ByteArray):((zap D s).2=9↔D.down=true):=by
 unfold zap zat z8
 cases D.down<;>simp
 repeat' split
 all_goals simp_all
theorem znx {L:zax} (h:LogAt M0 M g p b D es L) (k:Int):CallsM Tryz.prog F.zdK [ptr g,.int .i64 k] M fun v M'=>v = .int .i64 (zcS D k)∧M.le M':=by
 refine zob (by simp) ?_
 refine zR ?_
 refine on (h.self.c1 rfl) ?_
 refine zR ?_
 refine(zdY k).mono ?_
 rintro v M1 ⟨rfl,hle1⟩
 refine zT (hle1) ?_
 have h1:=h.to hle1
 refine zR ?_
 refine(zyu h1.disk (zeF k)).mono ?_
 rintro v M2 ⟨a,n,c,rfl,hn,hN⟩
 have h2:=h1.to hN.le
 refine zR ?_
 refine brn (fun e=>?_) (fun e=>?_)
 ·have hd:=(zzT D (zc k)).1 (Zd0 e)
  refine zR ?_
  refine on (h2.self.c1 rfl) ?_
  refine zR ?_
  refine(zdY k).mono ?_
  rintro v M3 ⟨rfl,hle3⟩
  have h3:=h2.to hle3
  refine zT (hle3) ?_
  refine zR ?_
  refine(zBN h3.disk (zc k)).mono ?_
  rintro v _ ⟨rfl,rfl⟩
  refine zR ?_
  refine⟨?_,Mem.le_trans hle1 (Mem.le_trans hN.le hle3)⟩
  unfold zcS;rw[if_pos hd]
 ·have hd:¬D.down=true:=fun hd=>Zd1 e ((zzT D (zc k)).2 hd)
  refine zR ?_
  refine⟨?_,Mem.le_trans hle1 hN.le⟩
  unfold zcS;rw[if_neg hd,hn,zaA]
theorem zvw {L:zax} (h:LogAt M0 M g p b D es L):CallsM Tryz.prog F.zew [ptr g] M fun v M'=>∃ es',v = .int .i64 (syncL D L).2.2∧LogAt M0 M' g p b (syncL D L).1 es' (syncL D L).2.1:=by
 refine zqP (by simp) ?_
 refine zR ?_
 refine(znw h.self).mono ?_
 rintro v _ ⟨rfl,rfl⟩
 (conv=>whnf);refine brn (fun e=>?_) (fun e=>?_)
 ·have hf:L.failed=true:=by
   cases hf:L.failed
   ·rw[hf] at e;exact absurd e (by decide)
   ·rfl
  refine zR ?_
  rw[if_pos hf,show syncL D L=(D,L,7) by simp[syncL,hf]]
  exact⟨es,rfl,h⟩
 have hf:¬L.failed=true:=fun hf=>by rw[if_pos hf] at e;exact absurd e (by decide)
 refine zR ?_
 refine on (h.self.c1 rfl) ?_
 refine zR ?_
 refine(zlC h.disk).mono ?_
 rintro v _ ⟨rfl,rfl⟩
 cases hd:D.down
 case true=>
  refine zR ?_
  refine(zf7 h 9).mono ?_
  rintro v M1 ⟨rfl,h1⟩
  refine zR ?_
  rw[show syncL D L=(D,zcf L 9,9) by simp[syncL,hf,hd]]
  exact⟨es,rfl,h1⟩
 refine zR ?_
 refine on (h.self.c1 rfl) ?_
 (conv=>whnf);refine on (h.self.c1 rfl) ?_
 (conv=>whnf);refine on (h.self.c1 rfl) ?_
 refine zR ?_
 refine(znx h L.last).mono ?_
 rintro v M1 ⟨rfl,hle1⟩
 have h1:=h.to hle1
 refine zT (hle1) ?_
 refine zR ?_
 refine(zdY L.last).mono ?_
 rintro v M2 ⟨rfl,hle2⟩
 have h2:=h1.to hle2
 refine zT ((Mem.le_trans hle1 hle2)) ?_
 refine zR ?_
 refine(zBN h2.disk (zc L.last)).mono ?_
 rintro v _ ⟨rfl,rfl⟩
 (conv=>whnf);refine brn (fun e=>?_) (fun e=>?_)
 ·have e1:zcS D L.last=zfY D (zc L.last):=by have:=Zd0 e;omega
  refine zR ?_
  rw[show syncL D L=(D,L,0) by simp[syncL,hf,hd,e1]]
  exact⟨es,rfl,h2⟩
 have e1:¬zcS D L.last=zfY D (zc L.last):=by have:=Zd1 e;omega
 refine zR ?_
 refine on (h2.self.c1 rfl) ?_
 (conv=>whnf);refine on (h2.self.c1 rfl) ?_
 refine zR ?_
 refine(zdY L.last).mono ?_
 rintro v M3 ⟨rfl,hle3⟩
 have h3:=h2.to hle3
 refine zT (hle3) ?_
 refine zR ?_
 refine(zBM h3.disk.base.1 (zeF L.last)).mono ?_
 rintro v M4 ⟨es4,rfl,h4⟩
 have h4':=h3.call h4
 refine zR ?_
 refine(zf7 h4' _).mono ?_
 rintro v M5 ⟨rfl,h5⟩
 refine zR ?_
 rw[show syncL D L=((zba D (zc L.last)).1,zcf L (zba D (zc L.last)).2,(zba D (zc L.last)).2) by simp[syncL,hf,hd,e1]]
 exact⟨es4,rfl,h5⟩
end
section
variable {M M0:Mem} {g p b:Nat} {D:zd} {es:FsT}
theorem zih (D:zd) (L:zax):(syncL D L).2.1.last=L.last∧(syncL D L).2.1.first=L.first∧(syncL D L).2.1.size=L.size:=by
 unfold syncL;repeat' split
 all_goals exact⟨rfl,rfl,rfl⟩
theorem zs6 {L:zax} (h:LogAt M0 M g p b D es L) (hl:L.last≤99999) (hl1:1≤L.last):CallsM Tryz.prog F.zd5 [ptr g] M fun v M'=>∃ es',v = .tuple #[.int .i64 (beginL D L).2.2.1,.int .i64 (beginL D L).2.2.2]∧LogAt M0 M' g p b (beginL D L).1 es' (beginL D L).2.1:=by
 refine zpk (by simp) ?_
 refine zR ?_
 refine(zvw h).mono ?_
 rintro v M1 ⟨es1,rfl,h1⟩
 obtain⟨l1,l2,l3⟩:=zih D L
 obtain⟨S,hS⟩:∃ S,S=syncL D L:=⟨_,rfl⟩
 have hB:beginL D L=if S.2.2≠0 then (S.1,S.2.1,0,S.2.2) else if zcS S.1 L.last=0 then (S.1,S.2.1,L.last,0) else if L.last=99999 then (S.1,S.2.1,0,1) else (S.1,{ S.2.1 with last:=L.last+1 },L.last+1,0):=by rw[hS];rfl
 rw[←hS] at h1 l1 l2 l3 ⊢
 (conv=>whnf);refine brn (fun e=>?_) (fun e=>?_)
 ·have e1:S.2.2≠0:=by simpa using e
  refine zR ?_
  rw[hB,if_pos e1]
  exact⟨es1,rfl,h1⟩
 have e1:¬S.2.2≠0:=by simpa using e
 refine zR ?_
 refine on (h1.self.c1 rfl) ?_
 refine zR ?_
 rw[l1]
 refine(znx h1 L.last).mono ?_
 rintro v M2 ⟨rfl,hle2⟩
 have h2:=h1.to hle2
 (conv=>whnf);refine brn (fun e=>?_) (fun e=>?_)
 ·have e2:zcS S.1 L.last=0:=by have:=Zd0 e;omega
  refine zR ?_
  refine on (h2.self.c1 rfl) ?_
  refine zR ?_
  rw[hB,if_neg e1,if_pos e2,l1]
  exact⟨es1,rfl,h2⟩
 have e2:¬zcS S.1 L.last=0:=by have:=Zd1 e;omega
 refine zR ?_
 refine on (h2.self.c1 rfl) ?_
 refine zR ?_
 rw[l1]
 refine brn (fun e=>?_) (fun e=>?_)
 ·have e3:L.last=99999:=Zd0 e
  refine zR ?_
  rw[hB,if_neg e1,if_neg e2,if_pos e3]
  exact⟨es1,rfl,h2⟩
 have e3:¬L.last=99999:=Zd1 e
 refine zR ?_
 refine on (h2.self.c1 rfl) ?_
 (conv=>whnf)
 rw[l1]
 refine ob (ze (by omega)) ?_
 (conv=>whnf);refine on h2.self.cells ?_
 (conv=>whnf);refine ob (by simp) ?_
 have h3:=h2.set { S.2.1 with last:=L.last+1 }
 obtain⟨M3,hM3⟩:∃ M3,M3=M2.setCells g T.zcc (zfC p { S.2.1 with last:=L.last+1 }):=⟨_,rfl⟩
 rw[←hM3] at h3
 (conv=>whnf)
 erw [←hM3]
 refine on (h3.self.c1 rfl) ?_
 refine zR ?_
 rw[hB,if_neg e1,if_neg e2,if_neg e3]
 exact⟨es1,rfl,h3⟩
def za2 (g p b:Nat) (es:FsT):Nat→Prop:=fun y=>y=g∨zab p b es y
theorem LogAt.full {L:zax} (h:LogAt M0 M g p b D es L) {y:Nat} (hy:za2 g p b es y):M y≠none:=by
 rcases hy with rfl|hy
 ·have:=h.self;unfold Mem.has at this;rw[this];simp
 ·exact h.disk.at'.full hy
theorem LogAt.mono {M1:Mem} {L:zax} (h:LogAt M1 M g p b D es L) (hle:M0.le M1):LogAt M0 M g p b D es L:=⟨h.disk.mono hle,h.self,by
 cases e:M0 g with
 | none=>rfl
 | some z=>have:=hle _ _ e;rw[h.fresh] at this;cases this⟩
theorem LogAt.base {L:zax} (h:LogAt M0 M g p b D es L):LogAt (M.minus (za2 g p b es)) M g p b D es L∧M0.le (M.minus (za2 g p b es)):=by
 refine⟨⟨⟨Mem.minus_le _ _,h.disk.at',h.disk.rel,h.disk.inv,fun y hy=>Mem.minus_in (.inr hy)⟩,h.self,Mem.minus_in (.inl rfl)⟩,Mem.le_minus h.disk.le fun y hy=>?_⟩
 rcases hy with rfl|hy
 ·exact h.fresh
 ·exact h.disk.fresh y hy
theorem zyy {L:zax} (h:LogAt M0 M g p b D es L) (hl:L.last≤99999) (hl1:1≤L.last) (hsz:0≤L.size∧L.size≤1048576) {a:Option Addr} {n c:Nat} {q:List UInt8} (hs:SrcOk M 1 a n (q.map zh)) (hn:n≤2097152) (hnc:n≤c) (hlen:zcS D L.last≤1048576) :
  CallsM Tryz.prog F.zeL [ptr g,.slice a n c] M fun v M'=>∃ es',v = .int .i64 (zaf D L q).2.2∧LogAt M0 M' g p b (zaf D L q).1 es' (zaf D L q).2.1:=by
 refine zog (by simp) ?_
 refine zR ?_
 refine(znw h.self).mono ?_
 rintro v _ ⟨rfl,rfl⟩
 (conv=>whnf);refine brn (fun e=>?_) (fun e=>?_)
 ·have hf:L.failed=true:=by
   cases hf:L.failed
   ·rw[hf] at e;exact absurd e (by decide)
   ·rfl
  refine zR ?_
  rw[if_pos hf,show zaf D L q=(D,L,7) by simp[zaf,hf]]
  exact⟨es,rfl,h⟩
 have hf:¬L.failed=true:=fun hf=>by rw[if_pos hf] at e;exact absurd e (by decide)
 refine zR ?_
 refine(zDv hs hn hnc).mono ?_
 rintro v M1 (⟨he,rfl,rfl⟩|⟨he,a',n',c',hn',rfl,hN⟩)
 ·(conv=>whnf);refine brn_t (by simpa using he) ?_
  refine zR ?_
  rw[show zaf D L q=(D,L,zfI q) by simp[zaf,hf,he]]
  exact⟨es,rfl,h⟩
 have h1:=h.to hN.le
 have hsB:=hN.src
 have hql:(zak q).length=8+q.length:=zdP q
 have hqn:=hs.maplen
 refine zR ?_
 refine on (h1.self.c1 rfl) ?_
 refine zR ?_
 refine(zlC h1.disk).mono ?_
 rintro v _ ⟨rfl,rfl⟩
 cases hd:D.down
 case true=>
  refine zR ?_
  refine(zf7 h1 9).mono ?_
  rintro v M2 ⟨rfl,h2⟩
  refine zR ?_
  rw[show zaf D L q=(D,zcf L 9,9) by simp[zaf,hf,he,hd]]
  exact⟨es,rfl,h2⟩
 refine zR ?_
 refine on (h1.self.c1 rfl) ?_
 refine zR ?_
 refine(znx h1 L.last).mono ?_
 rintro v M2 ⟨rfl,hle2⟩
 have h2:=h1.to hle2
 have hA:¬(zbC D L (zak q).length).2.2≠0→zaf D L q=((zW (zbC D L (zak q).length).1 (zc (zbC D L (zak q).length).2.1.last) (zak q)).1,
  zcf (zbC D L (zak q).length).2.1 (zW (zbC D L (zak q).length).1 (zc (zbC D L (zak q).length).2.1.last) (zak q)).2,
  (zW (zbC D L (zak q).length).1 (zc (zbC D L (zak q).length).2.1.last) (zak q)).2):=fun e0=>by
  unfold zaf;rw[if_neg hf,if_neg (by simp[he]),if_neg (by simp[hd]),if_neg e0]
 have hsM:SrcOk (M2.minus (za2 g p b es)) 1 a' n' ((zak q).map zh):=(hsB.le hle2).minus fun z hz hb=>h.full hb (hN.block hz).1
 (conv=>whnf);refine brn (fun e=>?_) (fun e=>?_)
 ·have e1:0<zcS D L.last:=by have:=Zd0 e;omega
  refine zR ?_
  refine on (h2.self.c1 rfl) ?_
  (conv=>whnf);refine ob (ze (by omega)) ?_
  (conv=>whnf);refine brn (fun e=>?_) (fun e=>?_)
  ·have e2:L.size - zcS D L.last<(zak q).length:=by have:=Zd0 e;omega
   have hfu:zyx D L (zak q).length:=⟨e1,e2⟩
   have hRe:zbC D L (zak q).length=((beginL D L).1,(beginL D L).2.1,(beginL D L).2.2.2):=by unfold zbC;rw[if_pos hfu]
   refine zR ?_
   refine(zs6 h2.base.1 hl hl1).mono ?_
   rintro v M3 ⟨es3,rfl,h3b⟩
   have hs3:=hsM.le h3b.disk.le
   have h3:=h3b.mono h2.base.2
   (conv=>whnf);refine brn (fun e=>?_) (fun e=>?_)
   ·have e3:(beginL D L).2.2.2≠0:=by simpa using e
    refine zR ?_
    rw[show zaf D L q=zbC D L (zak q).length by unfold zaf;rw[if_neg hf,if_neg (by simp[he]),if_neg (by simp[hd]),if_pos (by rw[hRe];exact e3)],hRe]
    exact⟨es3,rfl,h3⟩
   ·have e3:(beginL D L).2.2.2=0:=by simpa using e
    refine zR ?_
    refine on (h3.self.c1 rfl) ?_
    (conv=>whnf);refine on (h3.self.c1 rfl) ?_
    refine zR ?_
    refine(zdY _).mono ?_
    rintro v M4 ⟨rfl,hle4⟩
    have h4:=h3.to hle4
    refine zT (hle4) ?_
    refine zR ?_
    refine(znO h4.disk.base.1 (zeF _) (hs3.le hle4)).mono ?_
    rintro v M5 ⟨es5,rfl,h5⟩
    have h5':=h4.call h5
    refine zR ?_
    refine(zf7 h5' _).mono ?_
    rintro v M6 ⟨rfl,h6⟩
    refine zR ?_
    rw[hA (by rw[hRe];exact fun h=>h e3),hRe]
    exact⟨es5,rfl,h6⟩
  ·have e2:¬L.size - zcS D L.last<(zak q).length:=by have:=Zd1 e;omega
   have hRe:zbC D L (zak q).length=(D,L,0):=by unfold zbC;rw[if_neg (fun h=>e2 h.2)]
   have e3:(0:Int)=0:=rfl
   rename Mem=>M3
   have h3:=h2
   have hs3:=hsB.le hle2
   refine zR ?_
   refine on (h3.self.c1 rfl) ?_
   (conv=>whnf);refine on (h3.self.c1 rfl) ?_
   refine zR ?_
   refine(zdY _).mono ?_
   rintro v M4 ⟨rfl,hle4⟩
   have h4:=h3.to hle4
   refine zT (hle4) ?_
   refine zR ?_
   refine(znO h4.disk.base.1 (zeF _) (hs3.le hle4)).mono ?_
   rintro v M5 ⟨es5,rfl,h5⟩
   have h5':=h4.call h5
   refine zR ?_
   refine(zf7 h5' _).mono ?_
   rintro v M6 ⟨rfl,h6⟩
   refine zR ?_
   rw[hA (by rw[hRe];exact fun h=>h e3),hRe]
   exact⟨es5,rfl,h6⟩
 ·have e1:¬0<zcS D L.last:=by have:=Zd1 e;omega
  have hRe:zbC D L (zak q).length=(D,L,0):=by unfold zbC;rw[if_neg (fun h=>e1 h.1)]
  have e3:(0:Int)=0:=rfl
  rename Mem=>M3
  have h3:=h2
  have hs3:=hsB.le hle2
  refine zR ?_
  refine on (h3.self.c1 rfl) ?_
  (conv=>whnf);refine on (h3.self.c1 rfl) ?_
  refine zR ?_
  refine(zdY _).mono ?_
  rintro v M4 ⟨rfl,hle4⟩
  have h4:=h3.to hle4
  refine zT (hle4) ?_
  refine zR ?_
  refine(znO h4.disk.base.1 (zeF _) (hs3.le hle4)).mono ?_
  rintro v M5 ⟨es5,rfl,h5⟩
  have h5':=h4.call h5
  refine zR ?_
  refine(zf7 h5' _).mono ?_
  rintro v M6 ⟨rfl,h6⟩
  refine zR ?_
  rw[hA (by rw[hRe];exact fun h=>h e3),hRe]
  exact⟨es5,rfl,h6⟩
end
section
variable {M M0:Mem} {g p b:Nat} {D:zd} {es:FsT}
def zbA (s:ByteArray):Int:=if s.size=6∧((s.toList.getD 0 0).toNat:Int)=119 then ((bl s).drop 1).foldl (fun a c=>10*a+((c.toNat:Int) - 48)) 0 else 0
theorem zeU {s:ByteArray} (h:ze2 s):zbA s=0:=if_neg fun ⟨a,b⟩=>h.elim (fun h=>h a) fun h=>h b
theorem zbL {k:Int} (h:¬(k<1∨99999<k)):zbA (zc k)=k:=by
 rw[zfc h,zbA,if_pos ⟨rfl,by rw[zig];rfl⟩]
 have hnn:0≤k:=by omega
 have a1:kk k 1=k / 10:=by show (kk k 0).tdiv 10=_;rw[Int.tdiv_eq_ediv_of_nonneg (zfA hnn 0)];rfl
 have a2:kk k 2=k / 100:=by show (kk k 1).tdiv 10=_;rw[Int.tdiv_eq_ediv_of_nonneg (zfA hnn 1),a1];omega
 have a3:kk k 3=k / 1000:=by show (kk k 2).tdiv 10=_;rw[Int.tdiv_eq_ediv_of_nonneg (zfA hnn 2),a2];omega
 have a4:kk k 4=k / 10000:=by show (kk k 3).tdiv 10=_;rw[Int.tdiv_eq_ediv_of_nonneg (zfA hnn 3),a3];omega
 have a0:kk k 0=k:=rfl
 have d0:=zbr hnn 0
 have d1:=zbr hnn 1
 have d2:=zbr hnn 2
 have d3:=zbr hnn 3
 have d4:=zbr hnn 4
 show 10*(10*(10*(10*(10*0+(((dgB k 4).toNat:Int) - 48))+(((dgB k 3).toNat:Int) - 48))+(((dgB k 2).toNat:Int) - 48))+(((dgB k 1).toNat:Int) - 48))+(((dgB k 0).toNat:Int) - 48)=k
 omega
theorem zi6 {j k:Int} (hj:¬(j<1∨99999<j)) (hk:¬(k<1∨99999<k)) (h:zc j=zc k):j=k:=by rw[←zbL hj,←zbL hk,h]
def NamesW (D:zd):Prop:=∀ f∈D.l,(∃ k:Int,¬(k<1∨99999<k)∧f.name=zc k)∨ze2 f.name
theorem NamesW.num (h:NamesW D) {f:FileR} (hf:f∈D.l):(¬(zbA f.name<1∨99999<zbA f.name)∧f.name=zc (zbA f.name))∨(ze2 f.name∧zbA f.name=0):=by
 rcases h f hf with ⟨k,h1,h2⟩|h1
 ·rw[h2,zbL h1];exact .inl ⟨h1,rfl⟩
 ·exact .inr ⟨h1,zeU h1⟩
def zaQ (D:zd) (pick:Int→Bool):List Int:=(D.l.map fun f=>zbA f.name).filter fun k=>decide (0<k)&&pick k
theorem znQ {L:zax} (h:LogAt M0 M g p b D es L) (hW:NamesW D) {gf:Nat} {cv:Value} {pick:Int→Bool}
  (hp:∀ M',M.le M'→∀ k:Int,CallsM Tryz.prog gf [.int .i64 k,cv] M' fun v M''=>v = .bool (pick k)∧M'.le M'') :
  CallsM Tryz.prog F.zcx [ptr g,.func (.func gf) #[] #[cv]] M fun v M'=>∃ a n c,v = .slice a n c∧n=(zaQ D pick).length∧NewSl M T.zw 1 a n c ((zaQ D pick).map zan) M':=by
 refine zgY (by simp) ?_
 refine zR ?_
 refine on (h.self.c1 rfl) ?_
 refine zR ?_
 refine(zi4 h.disk.at' h.disk.rel h.disk.inv).mono ?_
 rintro v M1 ⟨na,nc,rfl,hNm⟩
 have hln:=h.disk.inv.len
 (conv=>whnf)
 refine zbh (σ:=Nat×Mem×Option Addr×Nat×List Int) [15,5] (fun y=>[(15,.int .i64 y.1),(5,.slice y.2.2.1 y.2.2.2.2.length y.2.2.2.1)]) (fun _=>[]) (fun y=>y.2.1)
  (fun|⟨i,Mc,a,c,out⟩=>i≤D.l.length∧NewSl M1 T.zw 1 a out.length c (out.map zan) Mc∧out=((D.l.take i).map fun f=>zbA f.name).filter (fun k=>decide (0<k)&&pick k)∧out.length≤i) (fun y=>D.l.length - y.1) ⟨0,M1,none,0,[]⟩ ⟨by omega,NewSl.none M1 T.zw 1,by simp,by simp⟩ zS ?_
 rintro ⟨i,Mc,a,c,out⟩ ⟨hi,hN,hout,hol⟩
 (conv=>whnf);refine brn (fun e=>?_) (fun e=>?_)
 ·have hlt:i<D.l.length:=by have:=Zd0 e;dsimp only at this;omega
  obtain⟨hk1,b1,o1,e1,hr1⟩:=(hNm.src.le hN.le).at (i:=i) hlt
  have hx:D.l[i]? = some D.l[i]:=List.getElem?_eq_getElem hlt
  have hnm:(D.l.map (·.name))[i]=D.l[i].name:=by simp
  rw[hnm] at hr1
  have hnum:=hW.num (List.mem_of_getElem? hx)
  have htk:((D.l.take (i+1)).map fun f=>zbA f.name).filter (fun k=>decide (0<k)&&pick k)=((D.l.take i).map fun f=>zbA f.name).filter (fun k=>decide (0<k)&&pick k)++(if (decide (0<zbA D.l[i].name)&&pick (zbA D.l[i].name))=true then [zbA D.l[i].name] else []):=by
   rw[List.take_add_one,hx,List.map_append,List.filter_append]
   congr 1
   cases hpk:(decide (0<zbA D.l[i].name)&&pick (zbA D.l[i].name))<;>simp[hpk]
  generalize D.l[i]=f at *
  rcases hnum with ⟨hnk,hnn⟩|⟨hno,hn0⟩
  rotate_left
  ·rw[hn0,if_neg (by simp),List.append_nil] at htk
   (conv=>whnf);refine ob (by first|omega|(dsimp only;omega)) ?_
   (conv=>whnf);refine atp e1 ?_
   (conv=>whnf);refine on hr1 ?_
   refine zR ?_
   refine(zoM hno).mono ?_
   rintro v _ ⟨rfl,rfl⟩
   refine zR ?_
   refine ob (ze (by first|omega|(dsimp only;omega))) ?_
   (conv=>whnf)
   exact⟨⟨i+1,Mc,a,c,out⟩,⟨by omega,hN,by rw[htk,hout],by omega⟩,by dsimp only;omega,zS⟩
  generalize hkk:zbA f.name=k at *
  rw[hnn] at hr1
  have hkp:decide (0<k)=true:=decide_eq_true (by omega)
  rw[hkp,Bool.true_and] at htk
  (conv=>whnf);refine ob (by first|omega|(dsimp only;omega)) ?_
  (conv=>whnf);refine atp e1 ?_
  (conv=>whnf);refine on hr1 ?_
  refine zR ?_
  refine(zs5 k hnk).mono ?_
  rintro v M2 ⟨rfl,hle2⟩
  (conv=>whnf);refine brn_t (decide_eq_true (by omega)) ?_
  refine zR ?_
  refine(hp M2 (Mem.le_trans hNm.le (Mem.le_trans hN.le hle2)) k).mono ?_
  rintro v M3 ⟨rfl,hle3⟩
  have hN3:=(hN.up hle2).up hle3
  cases hpk:pick k
  case true=>
   rw[hpk,if_pos rfl] at htk
   refine zR ?_
   refine ze8 M1 _ hN3 (by first|omega|(dsimp only;omega)) (by simp[maxLen];omega) (by simp[Value.oneCell']) fun a4 c4 M4 hN4=>?_
   (conv=>whnf);refine ob (ze (by first|omega|(dsimp only;omega))) ?_
   (conv=>whnf)
   refine⟨⟨i+1,M4,a4,c4,out++[k]⟩,⟨by omega,by simpa using hN4,by rw[htk,hout],by simp;omega⟩,by dsimp only;omega,?_⟩
   rw[List.length_append]
   exact zS
  case false=>
   rw[hpk,if_neg (by decide),List.append_nil] at htk
   refine zR ?_
   refine ob (ze (by first|omega|(dsimp only;omega))) ?_
   (conv=>whnf)
   exact⟨⟨i+1,M3,a,c,out⟩,⟨by omega,hN3,by rw[htk,hout],by omega⟩,by dsimp only;omega,zS⟩
 ·have hge:i=D.l.length:=by have:=Zd1 e;dsimp only at this;omega
  subst hge
  rw[List.take_length] at hout
  refine zR ?_
  exact⟨a,out.length,c,rfl,by rw[hout];rfl,by rw[show zaQ D pick=out from hout.symm];exact hN.mono hNm.le⟩
theorem zAV {L:zax} (h:LogAt M0 M g p b D es L) (hW:NamesW D) {gf:Nat} {cv cw:Value} {pick:Int→Bool}
  (hp:∀ M',M.le M'→∀ k:Int,CallsM Tryz.prog gf [.int .i64 k,cv,cw] M' fun v M''=>v = .bool (pick k)∧M'.le M'') :
  CallsM Tryz.prog F.zcx [ptr g,.func (.func gf) #[] #[cv,cw]] M fun v M'=>∃ a n c,v = .slice a n c∧n=(zaQ D pick).length∧NewSl M T.zw 1 a n c ((zaQ D pick).map zan) M':=by
 refine zgY (by simp) ?_
 refine zR ?_
 refine on (h.self.c1 rfl) ?_
 refine zR ?_
 refine(zi4 h.disk.at' h.disk.rel h.disk.inv).mono ?_
 rintro v M1 ⟨na,nc,rfl,hNm⟩
 have hln:=h.disk.inv.len
 (conv=>whnf)
 refine zbh (σ:=Nat×Mem×Option Addr×Nat×List Int) [15,5] (fun y=>[(15,.int .i64 y.1),(5,.slice y.2.2.1 y.2.2.2.2.length y.2.2.2.1)]) (fun _=>[]) (fun y=>y.2.1)
  (fun|⟨i,Mc,a,c,out⟩=>i≤D.l.length∧NewSl M1 T.zw 1 a out.length c (out.map zan) Mc∧out=((D.l.take i).map fun f=>zbA f.name).filter (fun k=>decide (0<k)&&pick k)∧out.length≤i) (fun y=>D.l.length - y.1) ⟨0,M1,none,0,[]⟩ ⟨by omega,NewSl.none M1 T.zw 1,by simp,by simp⟩ zS ?_
 rintro ⟨i,Mc,a,c,out⟩ ⟨hi,hN,hout,hol⟩
 (conv=>whnf);refine brn (fun e=>?_) (fun e=>?_)
 ·have hlt:i<D.l.length:=by have:=Zd0 e;dsimp only at this;omega
  obtain⟨hk1,b1,o1,e1,hr1⟩:=(hNm.src.le hN.le).at (i:=i) hlt
  have hx:D.l[i]? = some D.l[i]:=List.getElem?_eq_getElem hlt
  have hnm:(D.l.map (·.name))[i]=D.l[i].name:=by simp
  rw[hnm] at hr1
  have hnum:=hW.num (List.mem_of_getElem? hx)
  have htk:((D.l.take (i+1)).map fun f=>zbA f.name).filter (fun k=>decide (0<k)&&pick k)=((D.l.take i).map fun f=>zbA f.name).filter (fun k=>decide (0<k)&&pick k)++(if (decide (0<zbA D.l[i].name)&&pick (zbA D.l[i].name))=true then [zbA D.l[i].name] else []):=by
   rw[List.take_add_one,hx,List.map_append,List.filter_append]
   congr 1
   cases hpk:(decide (0<zbA D.l[i].name)&&pick (zbA D.l[i].name))<;>simp[hpk]
  generalize D.l[i]=f at *
  rcases hnum with ⟨hnk,hnn⟩|⟨hno,hn0⟩
  rotate_left
  ·rw[hn0,if_neg (by simp),List.append_nil] at htk
   (conv=>whnf);refine ob (by first|omega|(dsimp only;omega)) ?_
   (conv=>whnf);refine atp e1 ?_
   (conv=>whnf);refine on hr1 ?_
   refine zR ?_
   refine(zoM hno).mono ?_
   rintro v _ ⟨rfl,rfl⟩
   refine zR ?_
   refine ob (ze (by first|omega|(dsimp only;omega))) ?_
   (conv=>whnf)
   exact⟨⟨i+1,Mc,a,c,out⟩,⟨by omega,hN,by rw[htk,hout],by omega⟩,by dsimp only;omega,zS⟩
  generalize hkk:zbA f.name=k at *
  rw[hnn] at hr1
  have hkp:decide (0<k)=true:=decide_eq_true (by omega)
  rw[hkp,Bool.true_and] at htk
  (conv=>whnf);refine ob (by first|omega|(dsimp only;omega)) ?_
  (conv=>whnf);refine atp e1 ?_
  (conv=>whnf);refine on hr1 ?_
  refine zR ?_
  refine(zs5 k hnk).mono ?_
  rintro v M2 ⟨rfl,hle2⟩
  (conv=>whnf);refine brn_t (decide_eq_true (by omega)) ?_
  refine zR ?_
  refine(hp M2 (Mem.le_trans hNm.le (Mem.le_trans hN.le hle2)) k).mono ?_
  rintro v M3 ⟨rfl,hle3⟩
  have hN3:=(hN.up hle2).up hle3
  cases hpk:pick k
  case true=>
   rw[hpk,if_pos rfl] at htk
   refine zR ?_
   refine ze8 M1 _ hN3 (by first|omega|(dsimp only;omega)) (by simp[maxLen];omega) (by simp[Value.oneCell']) fun a4 c4 M4 hN4=>?_
   (conv=>whnf);refine ob (ze (by first|omega|(dsimp only;omega))) ?_
   (conv=>whnf)
   refine⟨⟨i+1,M4,a4,c4,out++[k]⟩,⟨by omega,by simpa using hN4,by rw[htk,hout],by simp;omega⟩,by dsimp only;omega,?_⟩
   rw[List.length_append]
   exact zS
  case false=>
   rw[hpk,if_neg (by decide),List.append_nil] at htk
   refine zR ?_
   refine ob (ze (by first|omega|(dsimp only;omega))) ?_
   (conv=>whnf)
   exact⟨⟨i+1,M3,a,c,out⟩,⟨by omega,hN3,by rw[htk,hout],by omega⟩,by dsimp only;omega,zS⟩
 ·have hge:i=D.l.length:=by have:=Zd1 e;dsimp only at this;omega
  subst hge
  rw[List.take_length] at hout
  refine zR ?_
  exact⟨a,out.length,c,rfl,by rw[hout];rfl,by rw[show zaQ D pick=out from hout.symm];exact hN.mono hNm.le⟩
end
section
variable {M M0:Mem} {g p b:Nat} {D:zd} {es:FsT}
def removeAll (D:zd):List Int→zd×Int
 | []=>(D,0)
 | k::r=>if (zC D (zc k)).2≠0 then zC D (zc k) else removeAll (zC D (zc k)).1 r
theorem zgL {L:zax} (h:LogAt M0 M g p b D es L) {a:Option Addr} {n c:Nat} {ks:List Int} (hs:SrcOk M0 1 a n (ks.map zan)) (hn:n≤1000000) :
  CallsM Tryz.prog F.zdM [ptr g,.slice a n c] M fun v M'=>∃ es',v = .int .i64 (removeAll D ks).2∧LogAt M0 M' g p b (removeAll D ks).1 es' L:=by
 refine zol (by simp) ?_
 have hkl:=hs.maplen
 (conv=>whnf)
 refine zbh (σ:=Nat×Mem×zd×FsT) [10] (fun y=>[(10,.int .i64 y.1)]) (fun _=>[]) (fun y=>y.2.1)
  (fun|⟨i,Mc,Dc,ec⟩=>i≤n∧LogAt M0 Mc g p b Dc ec L∧removeAll D ks=removeAll Dc (ks.drop i)) (fun y=>n - y.1) ⟨0,M,D,es⟩ ⟨by omega,h,rfl⟩ zS ?_
 rintro ⟨i,Mc,Dc,ec⟩ ⟨hi,hL,hrm⟩
 (conv=>whnf);refine brn (fun e=>?_) (fun e=>?_)
 ·have hlt:i<n:=by have:=Zd0 e;dsimp only at this;omega
  obtain⟨hk1,b1,o1,e1,hr1⟩:=(hs.le hL.disk.le).at hlt
  rw[List.drop_eq_getElem_cons hk1] at hrm
  generalize ks[i]=k at *
  (conv=>whnf);refine ob (by first|omega|(dsimp only;omega)) ?_
  (conv=>whnf);refine atp e1 ?_
  (conv=>whnf);refine on hr1 ?_
  refine zR ?_
  refine on (hL.self.c1 rfl) ?_
  refine zR ?_
  refine(zdY k).mono ?_
  rintro v M1 ⟨rfl,hle1⟩
  have h1:=hL.to hle1
  refine zT (hle1) ?_
  refine zR ?_
  refine(zsG h1.disk.base.1 (zeF k)).mono ?_
  rintro v M2 ⟨es2,rfl,h2⟩
  have h2':=h1.call h2
  (conv=>whnf);refine brn (fun e=>?_) (fun e=>?_)
  ·have e2:(zC Dc (zc k)).2≠0:=by simpa using e
   refine zR ?_
   rw[hrm,removeAll,if_pos e2]
   exact⟨es2,rfl,h2'⟩
  ·have e2:¬(zC Dc (zc k)).2≠0:=by simpa using e
   rw[removeAll,if_neg e2] at hrm
   refine zR ?_
   refine ob (ze (by first|omega|(dsimp only;omega))) ?_
   (conv=>whnf)
   exact⟨⟨i+1,M2,_,es2⟩,⟨by omega,h2',hrm⟩,by dsimp only;omega,zS⟩
 ·have hge:i=n:=by have:=Zd1 e;dsimp only at this;omega
  subst hge
  rw[List.drop_of_length_le (by omega),removeAll] at hrm
  refine zR ?_
  rw[hrm]
  exact⟨ec,rfl,hL⟩
theorem zAW {L:zax} {bx:Nat} (hb:M.has bx T.zbH [ptr g]) (h:M.has g T.zcc (zfC p L)):∀ M',M.le M'→∀ k:Int,CallsM Tryz.prog F.zf4 [.int .i64 k,ptr bx] M' fun v M''=>v = .bool (decide (k<L.first))∧M'.le M'':=fun M' hle k=>by
 refine zon (by simp) ?_
 refine zR ?_
 refine on ((hb.le hle).c1 rfl) ?_
 (conv=>whnf);refine on ((h.le hle).c1 rfl) ?_
 refine zR ?_
 exact⟨rfl,Mem.le_refl _⟩
theorem zp2 {bx:Nat} {n:Int} (hb:M.has bx T.zw [.int .i64 n]):∀ M',M.le M'→∀ k:Int,CallsM Tryz.prog F.zf5 [.int .i64 k,ptr bx] M' fun v M''=>v = .bool (decide (n≤k))∧M'.le M'':=fun M' hle k=>by
 refine zoo (by simp) ?_
 refine zR ?_
 refine on ((hb.le hle).c1 rfl) ?_
 refine zR ?_
 exact⟨rfl,Mem.le_refl _⟩
end
section
variable {M:Mem}
theorem zkx {B:Mem} {a:Option Addr} {n c:Nat} {ks:List Int} (h:NewSl B T.zw 1 a n c (ks.map zan) M) (hn:n≤1000000) :
  CallsM Tryz.prog F.zdN [.slice a n c] M fun v M'=>v = .tuple #[]∧NewSl B T.zw 1 a n c (ks.reverse.map zan) M'∧Mem.keep (blk a) M M':=by
 refine zib (by simp) ?_
 have hkl:=h.src.maplen
 refine zR ?_
 refine ob (ze (by first|omega|(dsimp only;omega))) ?_
 (conv=>whnf)
 refine zbh (σ:=Nat×Mem×List Int) [2,3] (fun y=>[(2,.int .i64 y.1),(3,.int .i64 (n - 1 - y.1))]) (fun _=>[]) (fun y=>y.2.1)
  (fun|⟨i,Mc,cur⟩=>2*i≤n+1∧NewSl B T.zw 1 a n c (cur.map zan) Mc∧Mem.keep (blk a) M Mc∧∀ x y,x+y+1=n→cur[x]? = if x<i∨y<i then ks[y]? else ks[x]?) (fun y=>n - y.1) ⟨0,M,ks⟩ ⟨by omega,h,Mem.keep_refl _ _,fun x y _=>by simp⟩ ?_ ?_
 ·dsimp only
  rw[show (n:Int) - 1 - ((0:Nat):Int)=n - 1 by omega];exact zS
 rintro ⟨i,Mc,cur⟩ ⟨hi,hN,hk,hc⟩
 have hcl:=hN.src.maplen
 (conv=>whnf);refine brn (fun e=>?_) (fun e=>?_)
 ·have hlt:2*i+1<n:=by have:=Zd0 e;dsimp only at this;omega
  obtain⟨j,hj⟩:∃ j,j=n - 1 - i:=⟨_,rfl⟩
  have hjI:(n:Int) - 1 - (i:Int)=(j:Int):=by omega
  obtain⟨hi1,b1,o1,e1,hr1⟩:=hN.src.at (i:=i) (by omega)
  obtain⟨hj1,b2,o2,e2,hr2⟩:=hN.src.at (i:=j) (by omega)
  rw[e1] at e2
  simp only[Option.some.injEq,Addr.mk.injEq,and_true] at e2
  obtain⟨rfl,rfl⟩:=e2
  obtain⟨b3,cs3,e3,hb3,hcell3,hlen3,hst3⟩:=hN.store1 (j:=i) (by omega)
  rw[e1] at e3
  simp only[Option.some.injEq,Addr.mk.injEq,and_true] at e3
  obtain⟨rfl,rfl⟩:=e3
  obtain⟨hN4,hk4⟩:=hst3 cur[j]
  obtain⟨M4,hM4⟩:∃ M4,M4=Mc.setCells b1 T.zw (zg cs3 (0+i*1) [zan cur[j]]):=⟨_,rfl⟩
  rw[←hM4] at hN4 hk4
  obtain⟨b5,cs5,e5,hb5,hcell5,hlen5,hst5⟩:=hN4.store1 (j:=j) (by omega)
  rw[e1] at e5
  simp only[Option.some.injEq,Addr.mk.injEq,and_true] at e5
  obtain⟨rfl, -⟩:=e5
  obtain⟨hN6,hk6⟩:=hst5 cur[i]
  dsimp only
  rw[hjI]
  (conv=>whnf);refine ob (by first|omega|(dsimp only;omega)) ?_
  (conv=>whnf);refine atp e1 ?_
  (conv=>whnf);refine on hr2 ?_
  (conv=>whnf);refine ob (by first|omega|(dsimp only;omega)) ?_
  (conv=>whnf);refine atp e1 ?_
  (conv=>whnf);refine on hr1 ?_
  (conv=>whnf);refine ob (by first|omega|(dsimp only;omega)) ?_
  (conv=>whnf);refine atp e1 ?_
  refine zR ?_
  refine on hcell3 ?_
  (conv=>whnf);refine ob (by simpa using hlen3) ?_
  (conv=>whnf)
  erw [←hM4]
  refine zR ?_
  refine ob (by first|omega|(dsimp only;omega)) ?_
  (conv=>whnf);refine atp e1 ?_
  refine zR ?_
  refine on hcell5 ?_
  (conv=>whnf);refine ob (by simpa using hlen5) ?_
  refine zR ?_
  refine ob (ze (by first|omega|(dsimp only;omega))) ?_
  (conv=>whnf);refine ob (ze (by first|omega|(dsimp only;omega))) ?_
  (conv=>whnf)
  refine⟨⟨i+1,_,(cur.set i cur[j]).set j cur[i]⟩,⟨by omega,hN6,Mem.keep_trans hk (Mem.keep_trans hk4 hk6),fun x y hxy=>?_⟩,by dsimp only;omega,?_⟩
  ·have h1:=hc x y hxy
   have h2:=hc i j (by omega)
   have h3:=hc j i (by omega)
   rw[List.getElem?_eq_getElem hi1] at h2
   rw[List.getElem?_eq_getElem hj1] at h3
   rw[if_neg (by omega)] at h2 h3
   by_cases ex:x=j
   ·subst ex
    have ey:y=i:=by omega
    subst ey
    rw[List.getElem?_set_self (by simpa using hj1),if_pos (.inr (by omega)),h2]
   ·rw[List.getElem?_set_ne (Ne.symm ex)]
    by_cases ex2:x=i
    ·subst ex2
     have ey:y=j:=by omega
     subst ey
     rw[List.getElem?_set_self hi1,if_pos (.inl (by omega)),h3]
    ·rw[List.getElem?_set_ne (Ne.symm ex2),h1]
     have:(x<i∨y<i)↔(x<i+1∨y<i+1):=by omega
     by_cases hh:x<i∨y<i
     ·rw[if_pos hh,if_pos (this.1 hh)]
     ·rw[if_neg hh,if_neg (fun h=>hh (this.2 h))]
  ·dsimp only
   rw[show (n:Int) - 1 - ((i+1:Nat):Int)=(j:Int) - 1 by omega];exact zS
 ·have hge:n≤2*i+1:=by have:=Zd1 e;dsimp only at this;omega
  have hrev:cur=ks.reverse:=by
   apply List.ext_getElem?
   intro x
   by_cases hx:x<n
   ·have h1:=hc x (n - 1 - x) (by omega)
    rw[h1,List.getElem?_reverse (by omega),hkl]
    split
    ·rfl
    ·have:x=n - 1 - x:=by omega
     rw[←this]
   ·rw[List.getElem?_eq_none (by omega),List.getElem?_eq_none (by simp;omega)]
  refine zR ?_
  exact⟨rfl,hrev▸hN,hk⟩
end
end Go.Proofs.YtpdkkbpkplhdpaaGreat
