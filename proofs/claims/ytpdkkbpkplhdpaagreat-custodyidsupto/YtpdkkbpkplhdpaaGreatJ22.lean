/- Part of this proof;laid by program. -/
import Derived.Test.YtpdkkbpkplhdpaaGreatJ21
import Derived.Test.YtpdkkbpkplhdpaaGreatJ15
import Derived.Test.YtpdkkbpkplhdpaaGreatJ10
import Derived.Test.YtpdkkbpkplhdpaaGreatJ19
set_option linter.unusedVariables false
set_option linter.unusedSimpArgs false
namespace Go.Proofs.YtpdkkbpkplhdpaaGreat
open Go Go.Vm
attribute [local irreducible] Brn Ob Grow CallsM inR zaD zaC Mem.row Mem.cells Mem.setCells Mem.upd Go.Vm.Own zaG za7 za9 zaR New SrcOk subA NewSl Mem.textAt Mem.mapAt Mem.iterAt zaB zam Wr NewEls Elems
set_option maxRecDepth 10000
section
def toE (m:Mk):(Int×Int)×Ent:=((m.o,m.e),⟨0,none,0,m.up,m.more⟩)
def zdo (mk:List Mk):EsT:=mk.map toE
theorem znT (mk:List Mk):(zdo mk).map zby=mk:=by
 unfold zdo;rw[List.map_map];exact List.map_id _
structure SeenAs (es:EsT) (mk:List Mk):Prop where
 perm:(es.map zby).Perm mk
 sort:mk.Pairwise zbQ
theorem zBR {es:EsT} {k:Int×Int}:(zF es k).map (fun x=>(x.up,x.more))=((es.map zby).find? fun m=>decide (m.o=k.1∧m.e=k.2)).map fun m=>(m.up,m.more):=by
 induction es with
 | nil=>rfl
 | cons q r ih=>
  obtain⟨⟨a,b⟩,x⟩:=q
  obtain⟨k1,k2⟩:=k
  rw[List.map_cons,List.find?_cons]
  by_cases e:a=k1∧b=k2
  ·obtain⟨rfl,rfl⟩:=e
   simp[zF,zby]
  ·have h1:¬(a,b)=(k1,k2):=fun h=>e (by simpa using h)
   have h2:decide ((zby ((a,b),x)).o=(k1,k2).1∧(zby ((a,b),x)).e=(k1,k2).2)=false:=decide_eq_false e
   rw[h2]
   simp only[zF,if_neg h1]
   exact ih
theorem zAb {l r:List Mk} (h:l.Perm r) (hs:r.Pairwise zbQ) (k:Int×Int):l.find? (fun m=>decide (m.o=k.1∧m.e=k.2))=r.find? fun m=>decide (m.o=k.1∧m.e=k.2):=by
 cases h1:l.find? fun m=>decide (m.o=k.1∧m.e=k.2) with
 | none=>
  symm
  rw[List.find?_eq_none] at h1 ⊢
  exact fun x hx=>h1 x (h.mem_iff.2 hx)
 | some x=>
  have hx:=h.mem_iff.1 (List.mem_of_find?_eq_some h1)
  have ex:=List.find?_some h1
  cases h2:r.find? fun m=>decide (m.o=k.1∧m.e=k.2) with
  | none=>
   rw[List.find?_eq_none] at h2
   exact absurd ex (h2 x hx)
  | some y=>
   have ey:=List.find?_some h2
   simp only[decide_eq_true_eq] at ex ey
   rw[zlI hs hx (List.mem_of_find?_eq_some h2) (by omega) (by omega)]
theorem SeenAs.get {es:EsT} {mk:List Mk} (h:SeenAs es mk) (k:Int×Int):(zF es k).map (fun x=>(x.up,x.more))=(zF (zdo mk) k).map fun x=>(x.up,x.more):=by
 rw[zBR,zBR,znT,zAb h.perm h.sort]
theorem SeenAs.up {es:EsT} {mk:List Mk} (h:SeenAs es mk) (k:Int×Int):zcC es k=zcC (zdo mk) k∧zbY es k=zbY (zdo mk) k:=by
 have:=h.get k
 unfold zcC zbY
 cases h1:zF es k<;>cases h2:zF (zdo mk) k<;>rw[h1,h2] at this<;>simp_all
theorem SeenAs.gaps {es:EsT} {mk:List Mk} (h:SeenAs es mk):zaH es=zaH (zdo mk):=by
 have e:∀ x:EsT,zaH x=((x.map zby).map fun m=>m.more.length).sum:=fun x=>by
  unfold zaH;rw[List.map_map];rfl
 rw[e,e,znT]
 exact(h.perm.map _).sum_nat
theorem SeenAs.has {es:EsT} {mk:List Mk} (h:SeenAs es mk) (o d e c:Int):zg8 es o d e c=zg8 (zdo mk) o d e c:=by
 unfold zg8;rw[(h.up _).1,(h.up _).2]
theorem SeenAs.may {es:EsT} {mk:List Mk} (h:SeenAs es mk) (g o d e c:Int):zdn g es o d e c=zdn g (zdo mk) o d e c:=by
 unfold zdn;rw[h.has,(h.up _).1,h.gaps]
theorem SeenAs.add {es:EsT} {mk:List Mk} (h:SeenAs es mk) (o e c:Int):zfe es o e c=zfe (zdo mk) o e c:=by
 unfold zfe;rw[(h.up _).1,(h.up _).2]
theorem SeenAs.nil:SeenAs [] []:=⟨.nil,.nil⟩
theorem SeenAs.canon {es:EsT} {mk:List Mk} (h:SeenAs es mk) (hE:InvE es):Canon (inE es) mk:=by
 refine⟨h.sort,fun m hm=>?_,fun o e c=>?_⟩
 ·obtain⟨q,hq,rfl⟩:=List.mem_map.1 (h.perm.mem_iff.2 hm)
  exact hE.can q hq
 ·rw[zsI hE]
  constructor
  ·rintro ⟨q,hq,e1,e2,hc⟩
   exact⟨zby q,h.perm.mem_iff.1 (List.mem_map.2 ⟨q,hq,rfl⟩),e1,e2,hc⟩
  ·rintro ⟨m,hm,e1,e2,hc⟩
   obtain⟨q,hq,rfl⟩:=List.mem_map.1 (h.perm.mem_iff.2 hm)
   exact⟨q,hq,e1,e2,hc⟩
def zgR (m:Mk):List Mk→List Mk
 | []=>[m]
 | y::r=>if m.o<y.o∨(m.o=y.o∧m.e<y.e) then m::y::r else if m.o=y.o∧m.e=y.e then m::r else y::zgR m r
theorem znC {m x:Mk}:∀ {l:List Mk},l.Pairwise zbQ→(x∈zgR m l↔x=m∨(x∈l∧¬(x.o=m.o∧x.e=m.e)))
 | [],_=>by simp[zgR]
 | y::r,h=>by
  obtain⟨h1,h2⟩:=List.pairwise_cons.1 h
  unfold zgR
  split
  ·rename_i hl
   have hne:∀ z∈y::r,¬(z.o=m.o∧z.e=m.e):=fun z hz=>by
    rcases List.mem_cons.1 hz with rfl|hz
    ·omega
    ·have:=h1 z hz;unfold zbQ at this;omega
   constructor
   ·intro hx
    rcases List.mem_cons.1 hx with rfl|hx
    ·exact .inl rfl
    ·exact .inr ⟨hx,hne x hx⟩
   ·rintro (rfl|⟨hx,_⟩)
    ·simp
    ·exact List.mem_cons_of_mem _ hx
  ·rename_i hl
   split
   ·rename_i he
    have hne:∀ z∈r,¬(z.o=m.o∧z.e=m.e):=fun z hz=>by
     have:=h1 z hz;unfold zbQ at this;omega
    constructor
    ·intro hx
     rcases List.mem_cons.1 hx with rfl|hx
     ·exact .inl rfl
     ·exact .inr ⟨List.mem_cons_of_mem _ hx,hne x hx⟩
    ·rintro (rfl|⟨hx,hn⟩)
     ·simp
     ·rcases List.mem_cons.1 hx with rfl|hx
      ·exact absurd ⟨he.1.symm,he.2.symm⟩ hn
      ·exact List.mem_cons_of_mem _ hx
   ·rename_i he
    rw[List.mem_cons,znC h2,List.mem_cons]
    constructor
    ·rintro (rfl|rfl|⟨hx,hn⟩)
     ·exact .inr ⟨.inl rfl,fun h=>he ⟨h.1.symm,h.2.symm⟩⟩
     ·exact .inl rfl
     ·exact .inr ⟨.inr hx,hn⟩
    ·rintro (rfl|⟨rfl|hx,hn⟩)
     ·exact .inr (.inl rfl)
     ·exact .inl rfl
     ·exact .inr (.inr ⟨hx,hn⟩)
theorem zlT {m:Mk}:∀ {l:List Mk},l.Pairwise zbQ→(zgR m l).Pairwise zbQ
 | [],_=>by simp[zgR]
 | y::r,h=>by
  obtain⟨h1,h2⟩:=List.pairwise_cons.1 h
  unfold zgR
  split
  ·rename_i hl
   refine List.pairwise_cons.2 ⟨fun z hz=>?_,h⟩
   rcases List.mem_cons.1 hz with rfl|hz
   ·exact hl
   ·have:=h1 z hz;unfold zbQ at this ⊢; omega
  ·rename_i hl
   split
   ·rename_i he
    refine List.pairwise_cons.2 ⟨fun z hz=>?_,h2⟩
    have:=h1 z hz;unfold zbQ at this ⊢; omega
   ·rename_i he
    refine List.pairwise_cons.2 ⟨fun z hz=>?_,zlT h2⟩
    rcases(znC h2).1 hz with rfl|⟨hz,_⟩
    ·unfold zbQ;omega
    ·exact h1 z hz
def zvP (mk:List Mk) (o e c:Int):List Mk:=zgR ⟨o,e,(zfe (zdo mk) o e c).1,(zfe (zdo mk) o e c).2⟩ mk
theorem zmb {α:Type}:∀ {l r:List α},l.Nodup→r.Nodup→(∀ x,x∈l↔x∈r)→l.Perm r
 | [],r,_,_,h=>by
  have:r=[]:=List.eq_nil_iff_forall_not_mem.2 fun x hx=>by have:=(h x).2 hx;cases this
  rw[this]
 | a::l,r,h1,h2,h=>by
  have ha:a∈r:=(h a).1 (by simp)
  obtain⟨u,v,rfl⟩:=List.append_of_mem ha
  obtain⟨h3,h4⟩:=List.nodup_cons.1 h1
  have hp:(u++a::v).Perm (a::(u++v)):=List.perm_middle
  have h5:=List.nodup_cons.1 (hp.nodup_iff.1 h2)
  refine(List.Perm.cons a (zmb h4 h5.2 fun x=>?_)).trans hp.symm
  have hx:=h x
  rw[hp.mem_iff,List.mem_cons,List.mem_cons] at hx
  constructor
  ·intro hl
   rcases hx.1 (.inr hl) with rfl|h6
   ·exact absurd hl h3
   ·exact h6
  ·intro hr
   rcases hx.2 (.inr hr) with rfl|h6
   ·exact absurd hr h5.1
   ·exact h6
theorem zyS {es:EsT} (h:(es.map (·.1)).Nodup):(es.map zby).Nodup:=by
 rw[List.Nodup,List.pairwise_map] at h ⊢
 exact h.imp fun {a b} hne e=>hne (by
  have h1:=congrArg Mk.o e
  have h2:=congrArg Mk.e e
  exact Prod.ext h1 h2)
theorem zyT {mk:List Mk} (h:mk.Pairwise zbQ):mk.Nodup:=h.imp fun {a b} h e=>by subst e;unfold zbQ at h;omega
theorem SeenAs.put {es:EsT} {mk:List Mk} (h:SeenAs es mk) (hn:(es.map (·.1)).Nodup) {o e c:Int} {x:Ent} (hx:(x.up,x.more)=zfe es o e c):SeenAs (zY es (o,e) x) (zvP mk o e c):=by
 have hm:zby ((o,e),x)=⟨o,e,(zfe (zdo mk) o e c).1,(zfe (zdo mk) o e c).2⟩:=by rw[←h.add,←hx];rfl
 refine⟨zmb (zyS (zed hn _ _)) (zyT (zlT h.sort)) fun m=>?_,zlT h.sort⟩
 unfold zvP
 rw[znC h.sort,←hm,List.mem_map]
 constructor
 ·rintro ⟨q,hq,rfl⟩
  rcases zlK hn hq with rfl|⟨h1,h2⟩
  ·exact .inl rfl
  ·exact .inr ⟨h.perm.mem_iff.1 (List.mem_map.2 ⟨q,h1,rfl⟩),fun ⟨e1,e2⟩=>h2 (Prod.ext e1 e2)⟩
 ·rintro (rfl|⟨h1,h2⟩)
  ·exact⟨((o,e),x),zQ (by rw[zdC,if_pos rfl]),rfl⟩
  ·obtain⟨q,hq,rfl⟩:=List.mem_map.1 (h.perm.mem_iff.2 h1)
   refine⟨q,?_,rfl⟩
   have:zF (zY es (o,e) x) q.1=some q.2:=by
    rw[zdC,if_neg fun e1=>h2 ⟨congrArg Prod.fst e1,congrArg Prod.snd e1⟩]
    exact zdc hn hq
   exact zQ this
end
section
variable {M A:Mem} {h:Hd}
structure StW where
 S:StR
 sn:List Mk
def zc6 (X:StW) (k:Int) (i:IdT) (n:Nat):Int:=za3 X.S (zdr X.S (zdo X.sn)) k i n
def zcy (X:StW) (k:Int) (i:IdT) (p:List UInt8):StW×Int:=
 if zc6 X k i p.length=0 then (⟨zP X.S k i p,if k=4 then zvP X.sn i.o i.e i.c else X.sn⟩,0) else (X,zc6 X k i p.length)
theorem zvQ (S:StR) (k:Int) (i:IdT) (p:List UInt8):(zP S k i p).self=S.self∧(zP S k i p).qh=S.qh∧(zP S k i p).qb=S.qb∧(zP S k i p).qg=S.qg:=by
 unfold zP;repeat' split
 all_goals exact⟨rfl,rfl,rfl,rfl⟩
structure FreshW (A M:Mem) (h:Hd) (X:StW):Prop where
 st:zvO A M X.S h
 seen:SeenAs h.es X.sn
 go:GoS X.S h.es
 bd:¬zbn X.S.self X.S.qh X.S.qb X.S.qg
theorem FreshW.to {X:StW} (h1:FreshW A M h X) {M':Mem} (hle:M.le M'):FreshW A M' h X:=⟨h1.st.to hle,h1.seen,h1.go,h1.bd⟩
theorem FreshW.may {X:StW} (h1:FreshW A M h X) (k:Int) (i:IdT) (n:Nat):za3 X.S (zdr X.S h.es) k i n=zc6 X k i n:=by
 have:zdr X.S h.es=zdr X.S (zdo X.sn):=funext fun i=>h1.seen.may ..
 unfold zc6;rw[this]
theorem FreshW.es_len {X:StW} (h1:FreshW A M h X):h.es.length=X.sn.length:=by have:=h1.seen.perm.length_eq;simpa using this
theorem FreshW.base {X:StW} (h1:FreshW A M h X):FreshW (M.minus (hB h)) M h X∧A.le (M.minus (hB h)):=⟨⟨h1.st.base.1,h1.seen,h1.go,h1.bd⟩,h1.st.base.2⟩
theorem FreshW.mono {X:StW} {A':Mem} (h1:FreshW A' M h X) (hle:A.le A'):FreshW A M h X:=
 ⟨⟨Mem.le_trans hle h1.st.le,h1.st.at',h1.st.inv,h1.st.invE,h1.st.room,fun y hy=>by
  cases e:A y with
  | none=>rfl
  | some o=>have:=hle y o e;rw[h1.st.fresh y hy] at this;cases this⟩,h1.seen,h1.go,h1.bd⟩
theorem zEf (self qh qb qg:Int):CallsM Tryz.prog F.zfP [.int .i64 self,.agg #[.int .i64 qh,.int .i64 qb,.int .i64 qg]] M fun v M'=>
  (zbn self qh qb qg∧v = .tuple #[.pointer none,.int .i64 1]∧M=M') ∨
  (¬zbn self qh qb qg∧∃ h,v = .tuple #[ptr h.p,.int .i64 0]∧FreshW M M' h ⟨zfg self qh qb qg,[]⟩∧h.came=0):=
 (zvG self qh qb qg).mono fun v M' hv=>by
  rcases hv with h1|⟨h1,p,b,sp,sb,rfl,h2⟩
  ·exact .inl h1
  ·exact .inr ⟨h1,⟨p,b,sp,sb,0,[],[]⟩,rfl,⟨h2,SeenAs.nil,GoS.new .., h1⟩,rfl⟩
theorem zEg {X:StW} (h1:FreshW A M h X) (k:Int) (i:IdT) (a:Option Addr) (n c:Nat) (hn:n≤1048576):CallsM Tryz.prog F.zcQ [ptr h.p,evV k i a n c] M fun v M'=>v = .int .i64 (zc6 X k i n)∧M.le M':=
 (zvH h1.st k i a n c hn).mono fun v M' ⟨hv,hle⟩=>⟨by rw[hv,h1.may],hle⟩
theorem zCA {X:StW} (h1:FreshW A M h X) (k:Int) (i:IdT) {a:Option Addr} {c:Nat} {l:List UInt8} (hl:SrcOk M 1 a l.length (l.map zh)) (hn:l.length≤1048576) (hcm:h.came≤4611686018427387904) :
  CallsM Tryz.prog F.zbM [ptr h.p,evV k i a l.length c] M fun v M'=>∃ h',v = .int .i64 (zcy X k i l).2∧FreshW A M' h' (zcy X k i l).1∧h'.p=h.p∧h'.came≤h.came+1:=
 (zrm h1.st k i hl hn hcm).mono fun v M' ⟨cm,xs,es,hv,hc,h2,hst⟩=>by
  have hq:=GoS.step X.S h.es es k i l h1.st.inv h1.st.invE h1.go hst
  rw[h1.may] at hv h2 hst hq
  unfold zcy
  by_cases hm:zc6 X k i l.length=0
  ·rw[if_pos hm] at h2 hq ⊢
   refine⟨⟨h.p,h.b,h.sp,h.sb,cm,xs,es⟩,by rw[hv,hm],⟨h2,?_,hq,by obtain⟨q1,q2,q3,q4⟩:=zvQ X.S k i l;dsimp only;rw[q1,q2,q3,q4];exact h1.bd⟩,rfl,hc⟩
   by_cases hk:k=4
   ·rw[if_pos ⟨hm,hk⟩] at hst
    rw[if_pos hk]
    have h4:zdn X.S.qg h.es i.o i.d i.e i.c=0:=by
     have h5:=h1.may k i l.length
     rw[hm,hk] at h5
     exact(zrw h5).2
    rcases hst with ⟨hne,_⟩|⟨_,x,rfl,hx⟩
    ·exact absurd h4 hne
    ·exact h1.seen.put h1.st.invE.nodup hx
   ·rw[if_neg fun h=>hk h.2] at hst
    rw[if_neg hk]
    dsimp only
    rw[hst];exact h1.seen
  ·rw[if_neg hm] at h2 hq ⊢
   rw[if_neg fun h=>hm h.1] at hst
   exact⟨⟨h.p,h.b,h.sp,h.sb,cm,xs,es⟩,hv,⟨h2,by dsimp only;rw[hst];exact h1.seen,hq,h1.bd⟩,rfl,hc⟩
theorem zCB {X:StW} (h1:FreshW A M h X) (d:Int):CallsM Tryz.prog F.zdS [ptr h.p,.int .i64 d] M fun v M'=>v = .tuple #[idA (z7 X.S d).1,.int .i64 (z7 X.S d).2]∧M=M':=zA9 h1.st.at' h1.st.inv d
theorem zDK {X:StW} (h1:FreshW A M h X) (i:IdT):CallsM Tryz.prog F.zd6 [ptr h.p,idA i] M fun v M'=>
  (v = .tuple #[.agg #[.int .i64 0,.int .i64 0,.int .i64 0,.int .i64 0,.slice none 0 0],.bool false]∧zeN X.S.l i=false∧M=M') ∨
  (∃ a n c l,v = .tuple #[.agg #[.int .i64 i.o,.int .i64 i.d,.int .i64 i.e,.int .i64 i.c,.slice a n c],.bool true]∧zeN X.S.l i=true∧⟨i,l⟩∈X.S.l∧NewSl M T.zm 1 a n c (l.map zh) M'):=zCv h1.st.at' h1.st.inv i
theorem FreshW.few {X:StW} (h1:FreshW A M h X):∀ m∈X.sn,m.more.length≤256:=fun m hm=>by
 obtain⟨q,hq,e⟩:=List.mem_map.1 (h1.seen.perm.mem_iff.2 hm)
 have h2:m.more=q.2.more:=(congrArg Mk.more e).symm
 have h3:=zi9 hq
 have h4:=h1.st.room
 rw[h2];omega
structure zBS (M0 M:Mem) (X:StW) (v:Value):Prop where
 ex:∃ ua uc ha hc ms ma mc mk,v=zz6 X.S ua uc ha ms hc ma mk mc∧StatR M ua (zad X.S.used).length ha ms.length ma mk.length (zad X.S.used) ms mk ∧
  zBj ms mk (zad X.S.used).length ms.length hc mk.length∧ms.map MX.msg=X.S.l∧mk.map MkC.mk'=X.sn∧NewSl M0 T.zeM 2 ua (zad X.S.used).length uc ((zad X.S.used).flatMap zg9) M∧HeldAt M0 ha ms.length hc ms M∧MarksAt M0 ma mk.length mc mk M
theorem zxk {X:StW} (h1:FreshW A M h X) (hcm:h.came≤4611686018427387904) (hmk:X.sn.length≤1048576):CallsM Tryz.prog F.zcW [ptr h.p] M fun v M'=>M.le M'∧zBS M M' X v:=
 (zBf h1.st hcm (by rw[h1.es_len];omega)).mono fun v M' ⟨ua,uc,ha,hc,ms,ma,mc,mk,hv,hle,hN,hH,hmsg,hMk,hperm,hcan⟩=>by
  have hI:=h1.st.inv
  have hqh:=hI.qh
  have hqm:X.S.qh≤256:=by have:=h1.bd;unfold zbn at this;omega
  have hml:ms.length=X.S.l.length:=by rw[←hmsg,List.length_map]
  have hmk2:mk.map MkC.mk'=X.sn:=hcan.uniq (h1.seen.canon h1.st.invE)
  have hmkl:mk.length=X.sn.length:=by rw[←hmk2,List.length_map]
  have hus:(zad X.S.used).length≤64:=by have h9:(zad X.S.used).length≤X.S.used.length:=zeg _ 0;have:=hI.ulen;omega
  have hfew:∀ m∈mk,m.more.length≤256:=fun m hm=>h1.few m.mk' (hmk2▸List.mem_map.2 ⟨m,hm,rfl⟩)
  have hcl:ms.length≤hc:=(newSl_iff.1 hH.row).2.2.1
  refine⟨hle,⟨ua,uc,ha,hc,ms,ma,mc,mk,hv,⟨hN.src,hH.msgs,hMk.r,fun m hm=>by have:=hfew m hm;omega,by omega⟩,⟨by omega,by omega,by omega,by omega,fun m hm=>?_,fun m hm=>by have:=hfew m hm;omega⟩,hmsg,hmk2,hN,hH,hMk⟩⟩
  have h2:m.msg∈X.S.l:=hmsg▸List.mem_map.2 ⟨m,hm,rfl⟩
  have:=(za6 (hI.msgs _ h2).1).2.2
  dsimp only [MX.msg] at this
  omega
end
section
variable {M M0:Mem}
def zV (xs:List Int):List UInt8:=xs.flatMap (be 2)
theorem zaT (xs:List Int):(zV xs).length=2*xs.length:=by
 unfold zV
 induction xs with
 | nil=>rfl
 | cons x r ih=>rw[List.flatMap_cons,List.length_append,ih,zce,List.length_cons];omega
theorem zCC {x:Int} (h:0≤x∧x≤65535):zcE x 2=0:=by
 unfold zcE
 rw[if_neg (by omega),if_neg]
 rintro ⟨-, h2⟩
 apply h2
 have e:(2:Int) ^ (8*(2:Int)).toNat=65536:=by decide
 rw[e,Int.fdiv_eq_ediv_of_nonneg _ (by decide)]
 omega
theorem zhp {a:Option Addr} {n c:Nat} {bs:List UInt8} (hN:NewSl M0 T.zm 1 a n c (bs.map zh) M) (hn:n≤2000000) {la:Option Addr} {ln lc:Nat} {xs:List Int} (hl:SrcOk M 1 la ln (xs.map zan)) (hln:ln≤1000000) (hx:∀ x∈xs,0≤x∧x≤65535) :
  CallsM Tryz.prog F.zb3 [.slice a n c,.slice la ln lc] M fun v M'=>∃ a' c',v = .slice a' (n+2*ln) c'∧NewSl M0 T.zm 1 a' (n+2*ln) c' ((bs++zV xs).map zh) M'∧M.le M':=by
 refine zwH (by simp) ?_
 have hll:=hl.maplen
 refine zR ?_
 refine zbh (σ:=Nat×Mem×Option Addr×Nat×Nat) [9,0] (fun y=>[(9,.int .i64 y.1),(0,.slice y.2.2.1 y.2.2.2.1 y.2.2.2.2)]) (fun _=>[]) (fun y=>y.2.1)
  (fun|⟨i,Mc,a',m,c'⟩=>i≤ln∧m=n+2*i∧NewSl M0 T.zm 1 a' m c' ((bs++zV (xs.take i)).map zh) Mc∧M.le Mc) (fun y=>ln - y.1) ⟨0,M,a,n,c⟩ ⟨by omega,by omega,by simpa[zV] using hN,Mem.le_refl _⟩ zS ?_
 rintro ⟨i,Mc,a',m,c'⟩ ⟨hi,rfl,hN2,hle⟩
 (conv=>whnf);refine brn (fun e=>?_) (fun e=>?_)
 ·have hlt:i<ln:=by have:=Zd0 e;dsimp only at this;omega
  obtain⟨hk1,b1,o1,e1,hr1⟩:=(hl.le hle).at (i:=i) hlt
  have hxi:=hx _ (List.getElem_mem hk1)
  have htk:zV (xs.take (i+1))=zV (xs.take i)++be 2 xs[i]:=by
   unfold zV
   rw[List.take_add_one,List.getElem?_eq_getElem hk1,List.flatMap_append];simp
  generalize xs[i]=x at *
  have hw:IntKind.u64.wrap x=x:=by simp[IntKind.wrap,IntKind.signed,IntKind.bits];omega
  (conv=>whnf);refine ob (by first|omega|(dsimp only;omega)) ?_
  (conv=>whnf);refine atp e1 ?_
  (conv=>whnf);refine on hr1 ?_
  (conv=>whnf)
  rw[show IntKind.u64.wrap x=x from hw]
  refine(zfv a' (n+2*i) c' x 2 Mc _ hN2.src (by omega)).mono ?_
  rintro v M2 (⟨h0, -⟩|⟨-, a2,c2,rfl,hO⟩)
  ·exact absurd (zCC hxi) h0
  refine zR ?_
  refine ob (ze (by first|omega|(dsimp only;omega))) ?_
  (conv=>whnf)
  have hO2:NewSl Mc T.zm 1 a2 (n+2*i+(2:Int).toNat) c2 ((bs++zV (xs.take i)++be (2:Int).toNat x).map zh) M2:=by unfold NewSl;exact⟨Mc,Mem.le_refl _,hO⟩
  have e2:n+2*i+(2:Int).toNat=n+2*(i+1):=by show n+2*i+2=_;omega
  have e3:bs++zV (xs.take i)++be (2:Int).toNat x=bs++zV (xs.take (i+1)):=by rw[htk,←List.append_assoc];rfl
  rw[e2,e3] at hO2
  refine⟨⟨i+1,M2,a2,n+2*(i+1),c2⟩,⟨by omega,rfl,hO2.mono hN2.le,Mem.le_trans hle hO2.le⟩,by dsimp only;omega,?_⟩
  rw[←e2]
  exact zS
 ·have hge:i=ln:=by have:=Zd1 e;dsimp only at this;omega
  subst hge
  rw[List.take_of_length_le (by omega)] at hN2
  refine zR ?_
  exact⟨a',c',rfl,hN2,hle⟩
end
end Go.Proofs.YtpdkkbpkplhdpaaGreat
namespace Go.Proofs.YtpdkkbpkplhdpaaGreat
open Go Go.Vm
attribute [local irreducible] Brn Ob Grow CallsM inR zaD Mem.row Mem.cells Mem.setCells Mem.upd Go.Vm.Own zaG za7 za9 zaR New SrcOk subA NewSl
def zt (x:Int):UInt8:=UInt8.ofNat (x % 256).toNat
theorem zb0 (x:Int):Value.int .u8 (IntKind.u8.wrap x)=zh (zt x):=by
 have h:IntKind.u8.wrap x=x % 256:=by simp[IntKind.wrap,IntKind.signed,IntKind.bits]
 rw[h]
 simp only[zh,zt]
 congr 1
 have:0≤x % 256∧x % 256<256:=by omega
 simp
 omega
def two (x:Int):List UInt8:=[zt (x / 256),zt x]
theorem zAc (x:Int):be 2 x=two x:=by
 simp[be,two,zcX,zt,Int.fdiv_eq_ediv]
def z6 (o d e c:Int):List UInt8:=[zt o,zt d]++two e++two c
set_option maxRecDepth 10000 in
theorem zqa (o d e c:Int) (M:Mem):CallsM Tryz.prog F.zhe [.agg #[.int .i64 o,.int .i64 d,.int .i64 e,.int .i64 c]] M fun v M'=>(zbz o d e c≠0∧v = .tuple #[.slice none 0 0,.int .i64 (zbz o d e c)]∧M=M') ∨
   (zbz o d e c=0∧∃ a' c',v = .tuple #[.slice a' 6 c',.int .i64 0]∧NewSl M T.zm 1 a' 6 c' ((z6 o d e c).map zh) M'):=by
 refine zvc (by simp) ?_
 (conv=>whnf)
 refine(zf8 _ _ _ _ _).mono ?_
 rintro v M' ⟨rfl,rfl⟩
 (conv=>whnf)
 refine brn (fun h=>?_) (fun h=>?_)
 ·(conv=>whnf)
  exact .inl ⟨by simpa using h,rfl,rfl⟩
 ·have hid:zbz o d e c=0:=by simpa using h
  obtain⟨ho,hd,he,hc,hne⟩:(0≤o∧o≤63)∧(0≤d∧d≤63)∧(1≤e∧e≤65535)∧(1≤c∧c≤65535)∧o≠d:=by
   unfold zbz at hid;split at hid
   ·split at hid<;>omega
   ·omega
  have hwe:IntKind.u64.wrap e=e:=by simp[IntKind.wrap,IntKind.signed,IntKind.bits];omega
  have hwc:IntKind.u64.wrap c=c:=by simp[IntKind.wrap,IntKind.signed,IntKind.bits];omega
  have hpe:zcE e 2=0:=by simp[zcE,Int.fdiv_eq_ediv];omega
  have hpc:zcE c 2=0:=by simp[zcE,Int.fdiv_eq_ediv];omega
  (conv=>whnf)
  refine new (fun b hb=>?_)
  replace hb:M b=none:=hb
  (conv=>whnf)
  rw[hwe,zb0,zb0]
  refine(zfv _ _ _ _ _ _ [zt o,zt d] (NewSl.lit hb T.zm 1 2 _ rfl).src (by omega)).mono ?_
  rintro v M1 (⟨h1, -⟩|⟨-, a1,c1,rfl,h1⟩)
  ·exact absurd hpe h1
  (conv=>whnf)
  rw[hwc]
  refine(zfv _ _ _ _ _ _ _ h1.new.src (by decide)).mono ?_
  rintro v M2 (⟨h2, -⟩|⟨-, a2,c2,rfl,h2⟩)
  ·exact absurd hpc h2
  (conv=>whnf)
  refine .inr ⟨hid,a2,c2,rfl,?_⟩
  have h3:=(h2.new.mono h1.base).mono (Mem.le_setCells hb)
  simpa[z6,zAc] using h3
end Go.Proofs.YtpdkkbpkplhdpaaGreat
namespace Go.Proofs.YtpdkkbpkplhdpaaGreat
open Go Go.Vm
attribute [local irreducible] Brn Ob Grow CallsM inR zaD zaC Mem.row Mem.cells Mem.setCells Mem.upd Go.Vm.Own zaG za7 za9 zaR New SrcOk subA NewSl Mem.textAt Mem.mapAt Mem.iterAt zaB zam Wr NewEls Elems
set_option maxRecDepth 10000
def zcM (l:List UInt8):IdT:=⟨(l.getD 0 0).toNat,(l.getD 1 0).toNat,zbX l 2 2,zbX l 4 2⟩
def IdT.err (i:IdT):Int:=zbz i.o i.d i.e i.c
@[reducible] def zbT:IdT:=⟨0,0,0,0⟩
def zaU (l:List UInt8):Int:=if l.length≠6 then 2 else if (zcM l).err≠0 then 2 else 0
def zeQ (l:List UInt8):IdT:=if zaU l=0 then zcM l else zbT
theorem zvR {l:List UInt8} (h:zaU l≠0):zaU l=2:=by
 unfold zaU at h ⊢
 split
 ·rfl
 ·rename_i h6
  rw[if_neg h6] at h
  split
  ·rfl
  ·rename_i h7;rw[if_neg h7] at h;exact absurd rfl h
theorem zyU (l:List UInt8) (k:Nat) (h:k+2≤l.length):zbX l k 2=256*(l.getD k 0).toNat+(l.getD (k+1) 0).toNat:=by
 unfold zbX
 have e:(l.drop (k:Int).toNat).take (Int.toNat 2)=[l[k],l[k+1]]:=by
  rw[show (k:Int).toNat=k by simp,show Int.toNat 2=2 by rfl,List.drop_eq_getElem_cons (by omega),List.take_succ_cons,List.drop_eq_getElem_cons (by omega),List.take_succ_cons,List.take_zero]
 rw[e]
 simp[num,List.getD_eq_getElem?_getD,List.getElem?_eq_getElem (show k<l.length by omega),List.getElem?_eq_getElem (show k+1<l.length by omega)]
theorem zmc (l:List UInt8) (k:Nat) (h:k+2≤l.length):zbX l k 2<65536:=by
 rw[zyU l k h]
 have:=UInt8.toNat_lt (l.getD k 0)
 have:=UInt8.toNat_lt (l.getD (k+1) 0)
 omega
theorem wrap_i64 {n:Int} (h:0≤n∧n<9223372036854775808):IntKind.i64.wrap n=n:=by
 rw[IntKind.wrap_i64];omega
theorem zqb (a:Option Addr) (n c:Nat) (M:Mem) (l:List UInt8) (hs:SrcOk M 1 a n (l.map zh)) (hn:n≤4194304) (hc:n≤c) :
  CallsM Tryz.prog F.zhd [.slice a n c] M fun v M'=>v = .tuple #[idA (zeQ l),.int .i64 (zaU l)]∧M=M':=by
 have hl:=hs.maplen
 refine zu8 (by simp) ?_
 (conv=>whnf);refine brn (fun h=>?_) (fun h=>?_)
 ·have h6:l.length≠6:=by simp at h;omega
  have e:zaU l=2:=by rw[zaU,if_pos h6]
  (conv=>whnf)
  rw[zeQ,e]
  exact⟨rfl,rfl⟩
 have h6:n=6:=by simp at h;omega
 subst h6
 (conv=>whnf);refine(zfw _ _ _ _ l hs hn hc 2 2 (by decide)).mono ?_
 rintro v M' ⟨rfl,rfl⟩
 (conv=>whnf);refine(zfw _ _ _ _ l hs hn hc 4 2 (by decide)).mono ?_
 rintro v M' ⟨rfl,rfl⟩
 obtain⟨h0,b,o,rfl,hr0⟩:=hs.at (i:=0) (by decide)
 obtain⟨h1,b',o',hbo,hr1⟩:=hs.at (i:=1) (by decide)
 cases hbo
 have n2:zbX l 2 2<65536:=zmc l 2 (by omega)
 have n4:zbX l 4 2<65536:=zmc l 4 (by omega)
 have b0:=UInt8.toNat_lt l[0]
 have b1:=UInt8.toNat_lt l[1]
 refine zR ?_
 refine on hr0 ?_
 refine zR ?_
 refine on hr1 ?_
 refine zR ?_
 rw[wrap_i64 (by omega),wrap_i64 (by omega),wrap_i64 (by omega),wrap_i64 (by omega)]
 have hid:zcM l=⟨(l[0].toNat:Int),(l[1].toNat:Int),zbX l 2 2,zbX l 4 2⟩:=by simp[zcM,List.getD_eq_getElem?_getD,List.getElem?_eq_getElem h0,List.getElem?_eq_getElem h1]
 refine zR ?_
 refine(zf8 _ _ _ _ _).mono ?_
 rintro v M' ⟨rfl,rfl⟩
 have he:(zcM l).err=zbz l[0].toNat l[1].toNat (zbX l 2 2) (zbX l 4 2):=by rw[hid];rfl
 rw[←he]
 have hne:¬l.length≠6:=by omega
 (conv=>whnf);refine brn (fun g=>?_) (fun g=>?_)
 ·have g':(zcM l).err≠0:=by simpa using g
  have e:zaU l=2:=by rw[zaU,if_neg hne,if_pos g']
  (conv=>whnf)
  rw[zeQ,e]
  exact⟨rfl,rfl⟩
 ·have g':(zcM l).err=0:=by simpa using g
  have e:zaU l=0:=by rw[zaU,if_neg hne,if_neg (by simp[g'])]
  (conv=>whnf)
  rw[zeQ,e,if_pos rfl,hid]
  exact⟨rfl,rfl⟩
def zaX (l:List UInt8):Int:=if l.length<6 then 2 else if zaU (l.take 6)≠0 then 2 else if l.length=6∨54<l.length then 2 else 0
def zbo (l:List UInt8):zbs:=if zaX l=0 then ⟨zcM (l.take 6),l.drop 6⟩ else ⟨zbT,[]⟩
theorem zrx (a:Option Addr) (n c:Nat) (M:Mem) (l:List UInt8) (hs:SrcOk M 1 a n (l.map zh)) (hn:n≤4194304) (hc:n≤c) :
  CallsM Tryz.prog F.zhm [.slice a n c] M fun v M'=>∃ p m k,v = .tuple #[.agg #[.int .i64 (zbo l).id.o,.int .i64 (zbo l).id.d,.int .i64 (zbo l).id.e,.int .i64 (zbo l).id.c,.slice p m k],.int .i64 (zaX l)] ∧
   NewSl M T.zm 1 p m k ((zbo l).p.map zh) M'∧m≤4194304:=by
 have hl:=hs.maplen
 refine zyd (by simp) ?_
 (conv=>whnf);refine brn (fun h=>?_) (fun h=>?_)
 ·have e:zaX l=2:=by rw[zaX,if_pos (by have:=Zd0 h;omega)]
  (conv=>whnf)
  refine⟨none,0,0,?_,?_,by decide⟩
  ·rw[zbo,e];rfl
  ·rw[zbo,e];exact NewSl.none _ _ _
 have h6:6≤l.length:=by have:=Zd1 h;omega
 have hsub:=hs.subm (lo:=0) (hi:=6) (by omega) (by omega) hc
 have hsub2:=hs.subm (lo:=6) (hi:=n) (by omega) (by omega) hc
 (conv=>whnf);refine ob (by omega) ?_
 (conv=>whnf);refine(zqb _ _ _ _ (l.take 6) (by simpa using hsub) (by decide) (by omega)).mono ?_
 rintro v M' ⟨rfl,rfl⟩
 (conv=>whnf);refine brn (fun g=>?_) (fun g=>?_)
 ·have g':zaU (l.take 6)≠0:=by simpa using g
  have e:zaX l=2:=by rw[zaX,if_neg (by omega),if_pos g']
  have e2:=zvR g'
  (conv=>whnf)
  rw[e2]
  refine⟨none,0,0,?_,?_,by decide⟩
  ·rw[zbo,e];rfl
  ·rw[zbo,e];exact NewSl.none _ _ _
 have g':zaU (l.take 6)=0:=by simpa using g
 have hgi:zeQ (l.take 6)=zcM (l.take 6):=by rw[zeQ,if_pos g']
 rw[hgi]
 have hd6:(l.drop 6).length=n - 6:=by simp;omega
 have hsub3:SrcOk M 1 (subA a 6 c 1) (n - 6) ((l.drop 6).map zh):=by rw[List.take_of_length_le (by omega)] at hsub2;exact hsub2
 have hok:zfS (zcM (l.take 6)).o (zcM (l.take 6)).d (zcM (l.take 6)).e (zcM (l.take 6)).c (n - 6)=if n=6 then 2 else if 54<n then 3 else 0:=by
  have:(zcM (l.take 6)).err=0:=by
   unfold zaU at g';split at g'
   ·cases g'
   ·split at g'
    ·cases g'
    ·rename_i h7;simpa using h7
  unfold zfS
  rw[show zbz _ _ _ _=0 from this]
  simp only[ne_eq,not_true_eq_false,if_false]
  (repeat' split)<;>first|rfl|omega
 (conv=>whnf)
 refine⟨M,Mem.le_refl _,?_⟩
 repeat' ((conv=>whnf);first|refine⟨?_,True.intro⟩|refine⟨?_,?_,True.intro⟩|refine new (fun b hb=>?_)|refine ob (by omega) ?_|fail)
 all_goals
  replace hb:M b=none:=hb
  have hN:=NewSl.lit hb T.zm 1 0 [] rfl
  (conv=>whnf)
  refine zdW (hsub3.le (Mem.le_setCells hb)) ?_
  (conv=>whnf)
  refine ze8 M _ hN (by omega) (by simp[maxLen];omega) (zcd _) fun a1 c1 M1 hN1=>?_
  refine zR ?_
  refine grow_same hN1.le ?_
  refine zR ?_
  refine(zkC _ _ _ _ _ _ _ _).mono ?_
  rintro v M' ⟨rfl,rfl⟩
  have hz:0+((n:Int).toNat - Int.toNat 6)=n - 6:=by
   have:Int.toNat 6=6:=rfl
   omega
  rw[hz] at hN1 ⊢
  rw[hok]
  have h6':¬l.length<6:=by omega
  (conv=>whnf);refine brn (fun g2=>?_) (fun g2=>?_)
  ·have e:zaX l=2:=by
    rw[zaX,if_neg h6',if_neg (by simp[g']),if_pos]
    by_cases h8:n=6
    ·omega
    ·rw[if_neg h8] at g2
     by_cases h9:54<n
     ·omega
     ·rw[if_neg h9] at g2;simp at g2
   (conv=>whnf)
   refine⟨none,0,0,?_,?_,by decide⟩
   ·rw[zbo,e];rfl
   ·rw[zbo,e];exact(NewSl.none _ _ _).up hN1.le
  ·have e:zaX l=0:=by
    rw[zaX,if_neg h6',if_neg (by simp[g']),if_neg]
    by_cases h8:n=6
    ·rw[if_pos h8] at g2;simp at g2
    ·rw[if_neg h8] at g2
     by_cases h9:54<n
     ·rw[if_pos h9] at g2;simp at g2
     ·omega
   (conv=>whnf)
   refine⟨a1,n - 6,c1,?_,?_,by omega⟩
   ·rw[zbo,e,if_pos rfl]
   ·rw[zbo,e,if_pos rfl];simpa using hN1
theorem zAd (a:Option Addr) (n c:Nat) (M:Mem) (l:List UInt8) (hs:SrcOk M 1 a n (l.map zh)) (hn:n≤4194304) (hc:n≤c) :
  CallsM Tryz.prog F.zhm [.slice a n c] M fun v M'=>∃ p m k,v = .tuple #[.agg #[.int .i64 (zbo l).id.o,.int .i64 (zbo l).id.d,.int .i64 (zbo l).id.e,.int .i64 (zbo l).id.c,.slice p m k],.int .i64 (zaX l)] ∧
   M.le M'∧SrcOk M' 1 p m ((zbo l).p.map zh)∧m≤4194304∧∀ q,p=some q→M q.block=none:=
 (zrx a n c M l hs hn hc).mono fun v M' ⟨p,m,k,hv,hN,hm⟩=>⟨p,m,k,hv,hN.le,hN.src,hm,fun q hq=>(hN.block hq).1⟩
theorem zez {x:Int} (h:0≤x∧x<256):((zt x).toNat:Int)=x:=by
 unfold zt
 simp
 omega
theorem zfh (b:UInt8):zt (b.toNat:Int)=b:=by
 have:=b.toNat_lt
 unfold zt
 apply UInt8.toNat_inj.1
 simp
 omega
theorem znD {x:Int} (h:0≤x∧x≤65535):(num (two x) 0:Int)=x:=by
 have h1:=zez (x:=x / 256) (by omega)
 have h2:((zt x).toNat:Int)=x % 256:=by
  have:zt x=zt (x % 256):=by simp[zt]
  rw[this];exact zez (by omega)
 simp only[two,num]
 push_cast
 omega
theorem zxl {a b:UInt8}:two (num [a,b] 0:Nat)=[a,b]:=by
 have ha:=a.toNat_lt
 have hb:=b.toNat_lt
 simp only[num,two]
 have h1:((256*(256*0+a.toNat)+b.toNat:Nat):Int) / 256=(a.toNat:Int):=by omega
 rw[h1,zfh]
 have h2:zt ((256*(256*0+a.toNat)+b.toNat:Nat):Int)=zt (b.toNat:Int):=by
  unfold zt;congr 2;omega
 rw[h2,zfh]
theorem zry {i:IdT} (h:i.err=0):zcM (z6 i.o i.d i.e i.c)=i∧(z6 i.o i.d i.e i.c).length=6:=by
 obtain⟨h1,h2,h3,h4,h5⟩:=zgm h
 refine⟨?_,by simp[z6,two]⟩
 have e1:=zez (x:=i.o) (by omega)
 have e2:=zez (x:=i.d) (by omega)
 have e3:=znD (x:=i.e) (by omega)
 have e4:=znD (x:=i.c) (by omega)
 have g3:zbX (z6 i.o i.d i.e i.c) 2 2=num (two i.e) 0:=rfl
 have g4:zbX (z6 i.o i.d i.e i.c) 4 2=num (two i.c) 0:=rfl
 unfold zcM
 rw[g3,g4,e3,e4]
 have q1:(z6 i.o i.d i.e i.c).getD 0 0=zt i.o:=rfl
 have q2:(z6 i.o i.d i.e i.c).getD 1 0=zt i.d:=rfl
 rw[q1,q2,e1,e2]
theorem zrz {l:List UInt8} (h:l.length=6):z6 (zcM l).o (zcM l).d (zcM l).e (zcM l).c=l:=by
 match l,h with
 | [a,b,c,d,e,f],_=>
  have g3:zbX [a,b,c,d,e,f] 2 2=num [c,d] 0:=rfl
  have g4:zbX [a,b,c,d,e,f] 4 2=num [e,f] 0:=rfl
  unfold zcM
  rw[g3,g4]
  simp only[z6]
  rw[zxl,zxl]
  have q1:([a,b,c,d,e,f]:List UInt8).getD 0 0=a:=rfl
  have q2:([a,b,c,d,e,f]:List UInt8).getD 1 0=b:=rfl
  rw[q1,q2,zfh,zfh]
  rfl
end Go.Proofs.YtpdkkbpkplhdpaaGreat
namespace Go.Proofs.YtpdkkbpkplhdpaaGreat
open Go Go.Vm
def zck (x:EvX):Int:=zbb x.kind x.id x.p.length
def zI (x:EvX):List UInt8:=zt x.kind::(if x.kind=1 then [] else if x.kind=2 then z6 x.id.o x.id.d x.id.e x.id.c++x.p else z6 x.id.o x.id.d x.id.e x.id.c)
def zb1 (x:EvX):List UInt8:=if zck x=0 then zI x else []
def zch:List UInt8→Option EvX
 | []=>none
 | b::r=>
  if b.toNat=1 then (if r=[] then some ⟨1,zbT,[]⟩ else none)
  else if b.toNat=2 then (if zaX r=0 then some ⟨2,(zbo r).id,(zbo r).p⟩ else none)
  else if b.toNat=3∨b.toNat=4 then (if zaU r=0 then some ⟨b.toNat,zeQ r,[]⟩ else none)
  else none
theorem zbp (b:UInt8) (r:List UInt8):zch (b::r)=if b.toNat=1 then (if r=[] then some ⟨1,zbT,[]⟩ else none)
  else if b.toNat=2 then (if zaX r=0 then some ⟨2,(zbo r).id,(zbo r).p⟩ else none)
  else if b.toNat=3∨b.toNat=4 then (if zaU r=0 then some ⟨b.toNat,zeQ r,[]⟩ else none)
  else none:=rfl
theorem zlU {x:EvX} (h:zck x=0):x.kind=1∨x.kind=2∨x.kind=3∨x.kind=4:=by
 unfold zck zbb at h
 repeat' split at h
 all_goals omega
theorem ztl {x:EvX} (h:zck x=0) (hk:x.kind=1):zfT x.id∧x.p=[]:=by
 unfold zck zbb at h
 rw[if_pos hk] at h
 split at h
 ·cases h
 ·rename_i g
  refine⟨?_,?_⟩
  ·by_cases h1:zfT x.id
   ·exact h1
   ·exact absurd (.inl h1) g
  ·exact List.eq_nil_of_length_eq_zero (by omega)
theorem zhq {x:EvX} (h:zck x=0) (hk:x.kind=2):zee x.id=0∧0<x.p.length∧x.p.length≤48:=by
 unfold zck zbb at h
 rw[if_neg (by omega),if_pos hk] at h
 exact za6 h
theorem zfD {x:EvX} (h:zck x=0) (hk:x.kind=3∨x.kind=4):zee x.id=0∧x.p=[]:=by
 unfold zck zbb at h
 rw[if_neg (by omega),if_neg (by omega),if_pos hk] at h
 split at h
 ·rename_i g;exact absurd h g
 ·rename_i g
  split at h
  ·cases h
  ·exact⟨by simpa using g,List.eq_nil_of_length_eq_zero (by omega)⟩
theorem zbe (o d e c:Int):(z6 o d e c).length=6:=by simp[z6,two]
theorem zfE {i:IdT} (h:zee i=0):zaU (z6 i.o i.d i.e i.c)=0∧zeQ (z6 i.o i.d i.e i.c)=i:=by
 obtain⟨h1,h2⟩:=zry (i:=i) h
 have:zaU (z6 i.o i.d i.e i.c)=0:=by
  unfold zaU
  rw[if_neg (by omega),h1,if_neg (by simp only[ne_eq,Decidable.not_not];exact h)]
 exact⟨this,by unfold zeQ;rw[if_pos this,h1]⟩
theorem zvS {k:Int} (h:0≤k∧k<256):((zt k).toNat:Int)=k:=zez h
theorem zwU {x:EvX} (h:zck x=0):zch (zI x)=some x:=by
 obtain⟨k,i,p⟩:=x
 have hk:=zlU h
 dsimp only at hk
 have hb:((zt k).toNat:Int)=k:=zvS (by omega)
 rcases hk with rfl|rfl|rfl|rfl
 ·obtain⟨h1,h2⟩:=ztl h rfl
  dsimp only at h1 h2
  subst h2
  have eb:zI ⟨1,i,[]⟩=[zt 1]:=rfl
  rw[eb,zbp,if_pos (by omega),if_pos rfl]
  obtain⟨o,d,e,c⟩:=i
  unfold zfT at h1
  dsimp only at h1
  obtain⟨rfl,rfl,rfl,rfl⟩:=h1
  rfl
 ·obtain⟨h1,h2,h3⟩:=zhq h rfl
  dsimp only at h1 h2 h3
  obtain⟨g1,g2⟩:=zfE h1
  have e6:(z6 i.o i.d i.e i.c++p).take 6=z6 i.o i.d i.e i.c:=by rw[List.take_append_of_le_length (by rw[zbe];omega),List.take_of_length_le (by rw[zbe];omega)]
  have d6:(z6 i.o i.d i.e i.c++p).drop 6=p:=by rw[List.drop_append,List.drop_of_length_le (by rw[zbe];omega),zbe];simp
  have hm:zaX (z6 i.o i.d i.e i.c++p)=0:=by
   unfold zaX
   rw[if_neg (by rw[List.length_append,zbe];omega),e6,if_neg (by simp[g1]),if_neg (by rw[List.length_append,zbe];omega)]
  have eb:zI ⟨2,i,p⟩=zt 2::(z6 i.o i.d i.e i.c++p):=rfl
  rw[eb,zbp,if_neg (by omega),if_pos (by omega),if_pos hm]
  unfold zbo
  rw[if_pos hm,e6,d6]
  rw[zeQ,if_pos g1] at g2
  dsimp only
  rw[g2]
 ·obtain⟨h1,h2⟩:=zfD h (.inl rfl)
  dsimp only at h1 h2
  subst h2
  obtain⟨g1,g2⟩:=zfE h1
  have eb:zI ⟨3,i,[]⟩=zt 3::z6 i.o i.d i.e i.c:=rfl
  rw[eb,zbp,if_neg (by omega),if_neg (by omega),if_pos (by omega),if_pos g1,g2,hb]
 ·obtain⟨h1,h2⟩:=zfD h (.inr rfl)
  dsimp only at h1 h2
  subst h2
  obtain⟨g1,g2⟩:=zfE h1
  have eb:zI ⟨4,i,[]⟩=zt 4::z6 i.o i.d i.e i.c:=rfl
  rw[eb,zbp,if_neg (by omega),if_neg (by omega),if_pos (by omega),if_pos g1,g2,hb]
theorem zmd {l:List UInt8} (h:zaU l=0):l.length=6∧zee (zcM l)=0:=by
 unfold zaU at h
 split at h
 ·cases h
 ·rename_i h6
  split at h
  ·cases h
  ·rename_i h7
   have h8:(zcM l).err=0:=by simpa using h7
   exact⟨by omega,h8⟩
theorem zsO {l:List UInt8} (h:zaX l=0):(7≤l.length∧l.length≤54)∧zaU (l.take 6)=0:=by
 unfold zaX at h
 split at h
 ·cases h
 ·split at h
  ·cases h
  ·rename_i g
   split at h
   ·cases h
   ·exact⟨by omega,by simpa using g⟩
theorem znE {b:UInt8} {k:Nat} (h:b.toNat=k):zt (k:Int)=b:=by rw[←h];exact zfh b
theorem zwV {l:List UInt8} {x:EvX} (h:zch l=some x):zck x=0∧zI x=l:=by
 cases l with
 | nil=>cases h
 | cons b r=>
  rw[zbp] at h
  split at h
  ·rename_i hb
   split at h
   ·rename_i hr
    cases h
    subst hr
    exact⟨by decide,by have:=znE hb;unfold zI;rw[if_pos rfl];exact congrArg (· :: []) this⟩
   ·cases h
  rename_i hb1
  split at h
  ·rename_i hb
   split at h
   ·rename_i hm
    cases h
    obtain⟨h1,h2⟩:=zsO hm
    obtain⟨h3,h4⟩:=zmd h2
    have em:zbo r=⟨zcM (r.take 6),r.drop 6⟩:=by unfold zbo;rw[if_pos hm]
    rw[em]
    dsimp only
    refine⟨?_,?_⟩
    ·unfold zck zbb
     dsimp only
     rw[if_neg (by decide),if_pos rfl]
     unfold zc5 zfS
     rw[show zbz (zcM (r.take 6)).o (zcM (r.take 6)).d (zcM (r.take 6)).e (zcM (r.take 6)).c=0 from h4]
     rw[if_neg (by decide),if_neg (by simp;omega),if_neg (by simp;omega)]
    ·unfold zI
     dsimp only
     rw[if_neg (by decide),if_pos rfl,zrz h3,List.take_append_drop]
     exact congrArg (· :: r) (znE hb)
   ·cases h
  rename_i hb2
  split at h
  ·rename_i hb
   split at h
   ·rename_i hi
    cases h
    obtain⟨h3,h4⟩:=zmd hi
    have ei:zeQ r=zcM r:=by unfold zeQ;rw[if_pos hi]
    rw[ei]
    refine⟨?_,?_⟩
    ·unfold zck zbb
     dsimp only
     rw[if_neg (by omega),if_neg (by omega),if_pos (by omega),if_neg (by simpa using h4),if_neg (by simp)]
    ·unfold zI
     dsimp only
     rw[if_neg (by omega),if_neg (by omega),zrz h3,znE rfl]
   ·cases h
  ·cases h
end Go.Proofs.YtpdkkbpkplhdpaaGreat
namespace Go.Proofs.YtpdkkbpkplhdpaaGreat
open Go Go.Vm
attribute [local irreducible] Brn Ob Grow CallsM inR zaD zaC Mem.row Mem.cells Mem.setCells Mem.upd Go.Vm.Own zaG za7 za9 zaR New SrcOk subA NewSl Mem.textAt Mem.mapAt Mem.iterAt zaB zam Wr NewEls Elems
set_option maxRecDepth 10000
section
variable {M:Mem}
theorem ztm (i:IdT) {a:Option Addr} {c:Nat} {l:List UInt8} (hl:SrcOk M 1 a l.length (l.map zh)) (h0:zc5 i l.length=0):CallsM Tryz.prog F.zjL [.agg #[.int .i64 i.o,.int .i64 i.d,.int .i64 i.e,.int .i64 i.c,.slice a l.length c]] M fun v M'=>
  ∃ a' c',v = .tuple #[.slice a' (6+l.length) c',.int .i64 0]∧NewSl M T.zm 1 a' (6+l.length) c' ((z6 i.o i.d i.e i.c++l).map zh) M':=by
 refine zyh (by simp) ?_
 obtain⟨h1,h2,h3⟩:=za6 h0
 refine zR ?_
 refine(zkC _ _ _ _ _ _ _ _).mono ?_
 rintro v _ ⟨rfl,rfl⟩
 (conv=>whnf);refine brn_f (by rw[show zfS i.o i.d i.e i.c l.length=0 from h0];rfl) ?_
 refine zR ?_
 refine(zqa _ _ _ _ _).mono ?_
 rintro v M1 (⟨hne, -⟩|⟨-, a1,c1,rfl,hN⟩)
 ·exact absurd h1 hne
 refine zR ?_
 refine zdW (hl.le hN.le) ?_
 (conv=>whnf);refine ze8 M _ hN (by first|omega|(dsimp only;omega)) (by simp[maxLen]<;>omega) (zcd _) fun a2 c2 M2 hN2=>?_
 refine zR ?_
 exact⟨a2,c2,rfl,by simpa using hN2⟩
def zAe (x:EvX) (M:Mem) (v:Value) (M':Mem):Prop:=∃ a c,v = .tuple #[.slice a (zb1 x).length c,.int .i64 (zck x)]∧NewSl M T.zm 1 a (zb1 x).length c ((zb1 x).map zh) M'
theorem zBl (x:EvX) {a:Option Addr} {c:Nat} (hl:SrcOk M 1 a x.p.length (x.p.map zh)):CallsM Tryz.prog F.zhy [evV x.kind x.id a x.p.length c] M (zAe x M):=by
 obtain⟨k,i,p⟩:=x
 dsimp only at hl ⊢
 refine zsb (by simp) ?_
 refine zR ?_
 refine(zxi k i a p.length c).mono ?_
 rintro v _ ⟨rfl,rfl⟩
 (conv=>whnf);refine brn (fun g=>?_) (fun g=>?_)
 ·have g1:¬zbb k i p.length=0:=by simpa using g
  have e:zb1 ⟨k,i,p⟩=[]:=by unfold zb1 zck;rw[if_neg g1]
  refine zR ?_
  refine⟨none,0,?_,?_⟩
  ·rw[e];rfl
  ·rw[e];exact NewSl.none _ _ _
 have g0:zbb k i p.length=0:=by simpa using g
 have g1:zck ⟨k,i,p⟩=0:=g0
 have e:zb1 ⟨k,i,p⟩=zI ⟨k,i,p⟩:=by unfold zb1;rw[if_pos g1]
 have hk:=zlU g1
 dsimp only at hk
 rcases hk with rfl|rfl|rfl|rfl
 ·have eb:zI ⟨1,i,p⟩=[zt 1]:=rfl
  have hlen:1+0=(zb1 ⟨1,i,p⟩).length:=by rw[e,eb];rfl
  have hle:=Mem.le_refl M
  refine zR ?_
  refine new (fun b9 hb9=>?_)
  replace hb9:M b9=none:=hb9
  rw[zb0]
  have hN9:NewSl M T.zm 1 (some ⟨b9,0,none⟩) 1 1 ([zt 1].map zh) _:=NewSl.lit hb9 T.zm 1 1 [zh (zt 1)] rfl
  (conv=>whnf)
  refine zdW (vs:=([]:List UInt8).map zh) (SrcOk.nil _ _) ?_
  (conv=>whnf);refine ze8 _ _ hN9 (by first|omega|(dsimp only;omega)) (by simp[maxLen]<;>omega) (zcd _) fun a2 c2 M2 hN2=>?_
  refine zR ?_
  refine⟨a2,c2,by rw[←hlen,g1],?_⟩
  rw[←hlen,e,eb]
  exact NewSl.mono (by simpa using hN2) hle
 ·obtain⟨h1,h2,h3⟩:=zhq g1 rfl
  dsimp only at h1 h2 h3
  have eb:zI ⟨2,i,p⟩=zt 2::(z6 i.o i.d i.e i.c++p):=rfl
  have hlen:1+(6+p.length)=(zb1 ⟨2,i,p⟩).length:=by rw[e,eb,List.length_cons,List.length_append,zbe];omega
  refine zR ?_
  refine(ztm i hl (by unfold zbb at g0;rwa [if_neg (by decide),if_pos rfl] at g0)).mono ?_
  rintro v M1 ⟨a1,c1,rfl,hN⟩
  refine zR ?_
  refine new (fun b9 hb9=>?_)
  replace hb9:M1 b9=none:=hb9
  have hle:=hN.le
  rw[zb0]
  have hN9:NewSl M1 T.zm 1 (some ⟨b9,0,none⟩) 1 1 ([zt 2].map zh) _:=NewSl.lit hb9 T.zm 1 1 [zh (zt 2)] rfl
  (conv=>whnf)
  refine zdW (hN.src.le hN9.le) ?_
  (conv=>whnf);refine ze8 _ _ hN9 (by first|omega|(dsimp only;omega)) (by simp[maxLen]<;>omega) (zcd _) fun a2 c2 M2 hN2=>?_
  refine zR ?_
  refine⟨a2,c2,by rw[←hlen,g1],?_⟩
  rw[←hlen,e,eb]
  exact NewSl.mono (by simpa using hN2) hle
 ·have eb:zI ⟨3,i,p⟩=zt 3::z6 i.o i.d i.e i.c:=rfl
  have hlen:1+6=(zb1 ⟨3,i,p⟩).length:=by rw[e,eb,List.length_cons,zbe]
  obtain⟨h1,h2⟩:=zfD g1 (by dsimp only;omega)
  refine zR ?_
  refine(zqa _ _ _ _ _).mono ?_
  rintro v M1 (⟨hne, -⟩|⟨-, a1,c1,rfl,hN⟩)
  ·exact absurd h1 hne
  refine zR ?_
  refine new (fun b9 hb9=>?_)
  replace hb9:M1 b9=none:=hb9
  have hle:=hN.le
  rw[zb0]
  have hN9:NewSl M1 T.zm 1 (some ⟨b9,0,none⟩) 1 1 ([zt 3].map zh) _:=NewSl.lit hb9 T.zm 1 1 [zh (zt 3)] rfl
  (conv=>whnf)
  refine zdW (hN.src.le hN9.le) ?_
  (conv=>whnf);refine ze8 _ _ hN9 (by first|omega|(dsimp only;omega)) (by simp[maxLen]<;>omega) (zcd _) fun a2 c2 M2 hN2=>?_
  refine zR ?_
  refine⟨a2,c2,by rw[←hlen,g1],?_⟩
  rw[←hlen,e,eb]
  exact NewSl.mono (by simpa using hN2) hle
 ·have eb:zI ⟨4,i,p⟩=zt 4::z6 i.o i.d i.e i.c:=rfl
  have hlen:1+6=(zb1 ⟨4,i,p⟩).length:=by rw[e,eb,List.length_cons,zbe]
  obtain⟨h1,h2⟩:=zfD g1 (by dsimp only;omega)
  refine zR ?_
  refine(zqa _ _ _ _ _).mono ?_
  rintro v M1 (⟨hne, -⟩|⟨-, a1,c1,rfl,hN⟩)
  ·exact absurd h1 hne
  refine zR ?_
  refine new (fun b9 hb9=>?_)
  replace hb9:M1 b9=none:=hb9
  have hle:=hN.le
  rw[zb0]
  have hN9:NewSl M1 T.zm 1 (some ⟨b9,0,none⟩) 1 1 ([zt 4].map zh) _:=NewSl.lit hb9 T.zm 1 1 [zh (zt 4)] rfl
  (conv=>whnf)
  refine zdW (hN.src.le hN9.le) ?_
  (conv=>whnf);refine ze8 _ _ hN9 (by first|omega|(dsimp only;omega)) (by simp[maxLen]<;>omega) (zcd _) fun a2 c2 M2 hN2=>?_
  refine zR ?_
  refine⟨a2,c2,by rw[←hlen,g1],?_⟩
  rw[←hlen,e,eb]
  exact NewSl.mono (by simpa using hN2) hle
end
section
variable {M:Mem}
def GetOut (l:List UInt8) (M:Mem) (v:Value) (M':Mem):Prop:=
 (zch l=none∧v = .tuple #[evV 0 zbT none 0 0,.int .i64 2]∧M.le M') ∨
 (∃ x a c,zch l=some x∧v = .tuple #[evV x.kind x.id a x.p.length c,.int .i64 0]∧M.le M'∧SrcOk M' 1 a x.p.length (x.p.map zh)∧x.p.length≤4194304)
theorem zBm {a:Option Addr} {n c:Nat} {l:List UInt8} (hs:SrcOk M 1 a n (l.map zh)) (hn:n≤4194304) (hc:n≤c):CallsM Tryz.prog F.zhx [.slice a n c] M (GetOut l M):=by
 refine zr4 (by simp) ?_
 have hl:=hs.maplen
 refine zR ?_
 refine brn (fun g=>?_) (fun g=>?_)
 ·have hn0:l=[]:=List.eq_nil_of_length_eq_zero (by have:=Zd0 g;omega)
  subst hn0
  refine zR ?_
  exact .inl ⟨rfl,rfl,Mem.le_refl _⟩
 have hn1:0<n:=by have:=Zd1 g;omega
 obtain⟨b,r,rfl⟩:∃ b r,l=b::r:=by
  cases l with
  | nil=>simp at hl;omega
  | cons b r=>exact⟨b,r,rfl⟩
 obtain⟨h0,bb,o,ha,hrow⟩:=hs.at (i:=0) hn1
 replace hrow:M.row bb (o+0*1) 1=some [zh b]:=hrow
 have hrl:r.length=n - 1:=by simp at hl;omega
 have hsub:SrcOk M 1 (subA a 1 c 1) (n - 1) (r.map zh):=by
  have:=hs.subm (lo:=1) (hi:=n) (by omega) (by omega) hc
  rw[List.drop_succ_cons,List.drop_zero,List.take_of_length_le (by omega)] at this
  exact this
 have hb:=UInt8.toNat_lt b
 have hw:IntKind.i64.wrap (b.toNat:Int)=b.toNat:=wrap_i64 (by omega)
 (conv=>whnf);refine ob (by omega) ?_
 (conv=>whnf);refine atp ha ?_
 (conv=>whnf);refine on hrow ?_
 (conv=>whnf)
 rw[hw]
 refine brn (fun g1=>?_) (fun g1=>?_)
 ·have k1:b.toNat=1:=by have:=Zd0 g1;omega
  (conv=>whnf);refine brn (fun g2=>?_) (fun g2=>?_)
  ·have hp:zch (b::r)=none:=by
    rw[zbp,if_pos k1,if_neg]
    intro e;subst e
    have:=Zd0 g2
    simp at hrl;omega
   (conv=>whnf)
   refine zR ?_
   exact .inl ⟨hp,rfl,by first|exact Mem.le_refl _|exact hle⟩
  ·have hr:r=[]:=List.eq_nil_of_length_eq_zero (by have:=Zd1 g2;omega)
   have hp:zch (b::r)=some ⟨1,zbT,[]⟩:=by rw[zbp,if_pos k1,if_pos hr]
   rw[k1]
   refine zR ?_
   exact .inr ⟨_,none,0,hp,rfl,Mem.le_refl _,SrcOk.nil _ _,by simp⟩
 have k1:¬b.toNat=1:=by have:=Zd1 g1;omega
 (conv=>whnf);refine brn (fun g2=>?_) (fun g2=>?_)
 ·have k2:b.toNat=2:=by have:=Zd0 g2;omega
  refine zR ?_
  refine ob (by omega) ?_
  refine zR ?_
  refine(zAd _ _ _ _ r hsub (by omega) (by omega)).mono ?_
  rintro v M1 ⟨p,m,k,rfl,hle,hps,hm, -⟩
  (conv=>whnf);refine brn (fun g3=>?_) (fun g3=>?_)
  ·have e:¬zaX r=0:=by simpa using g3
   have hp:zch (b::r)=none:=by rw[zbp,if_neg k1,if_pos k2,if_neg e]
   (conv=>whnf)
   refine zR ?_
   exact .inl ⟨hp,rfl,by first|exact Mem.le_refl _|exact hle⟩
  ·have e:zaX r=0:=by simpa using g3
   have hp:zch (b::r)=some ⟨2,(zbo r).id,(zbo r).p⟩:=by rw[zbp,if_neg k1,if_pos k2,if_pos e]
   obtain rfl:=hps.maplen
   rw[k2]
   refine zR ?_
   exact .inr ⟨_,p,k,hp,rfl,hle,hps,hm⟩
 have k2:¬b.toNat=2:=by have:=Zd1 g2;omega
 (conv=>whnf);refine brn (fun g3=>?_) (fun g3=>?_)
 ·have k3:b.toNat=3∨b.toNat=4:=by have:=Zd0 g3;omega
  (conv=>whnf);refine brn_t g3 ?_
  refine zR ?_
  refine ob (by omega) ?_
  refine zR ?_
  refine(zqb _ _ _ _ r hsub (by omega) (by omega)).mono ?_
  rintro v _ ⟨rfl,rfl⟩
  (conv=>whnf);refine brn (fun g5=>?_) (fun g5=>?_)
  ·have e:¬zaU r=0:=by simpa using g5
   have hp:zch (b::r)=none:=by rw[zbp,if_neg k1,if_neg k2,if_pos k3,if_neg e]
   (conv=>whnf)
   refine zR ?_
   exact .inl ⟨hp,rfl,by first|exact Mem.le_refl _|exact hle⟩
  ·have e:zaU r=0:=by simpa using g5
   have hp:zch (b::r)=some ⟨b.toNat,zeQ r,[]⟩:=by rw[zbp,if_neg k1,if_neg k2,if_pos k3,if_pos e]
   refine zR ?_
   exact .inr ⟨_,none,0,hp,rfl,Mem.le_refl _,SrcOk.nil _ _,by simp⟩
 (conv=>whnf);refine brn (fun g4=>?_) (fun g4=>?_)
 ·have k3:b.toNat=3∨b.toNat=4:=by have:=Zd0 g4;omega
  refine zR ?_
  refine ob (by omega) ?_
  refine zR ?_
  refine(zqb _ _ _ _ r hsub (by omega) (by omega)).mono ?_
  rintro v _ ⟨rfl,rfl⟩
  (conv=>whnf);refine brn (fun g5=>?_) (fun g5=>?_)
  ·have e:¬zaU r=0:=by simpa using g5
   have hp:zch (b::r)=none:=by rw[zbp,if_neg k1,if_neg k2,if_pos k3,if_neg e]
   (conv=>whnf)
   refine zR ?_
   exact .inl ⟨hp,rfl,by first|exact Mem.le_refl _|exact hle⟩
  ·have e:zaU r=0:=by simpa using g5
   have hp:zch (b::r)=some ⟨b.toNat,zeQ r,[]⟩:=by rw[zbp,if_neg k1,if_neg k2,if_pos k3,if_pos e]
   refine zR ?_
   exact .inr ⟨_,none,0,hp,rfl,Mem.le_refl _,SrcOk.nil _ _,by simp⟩
 ·have k3:¬(b.toNat=3∨b.toNat=4):=by have:=Zd1 g3;have:=Zd1 g4;omega
  have hp:zch (b::r)=none:=by rw[zbp,if_neg k1,if_neg k2,if_neg k3]
  (conv=>whnf)
  refine zR ?_
  exact .inl ⟨hp,rfl,by first|exact Mem.le_refl _|exact hle⟩
end
section
variable {M:Mem}
def zbD (l:List UInt8):EvX:=(zch l).getD ⟨0,zbT,[]⟩
def zfU (l:List UInt8):Int:=if zch l=none then 2 else 0
theorem GetOut.all {l:List UInt8} {v:Value} {M':Mem} (h:GetOut l M v M'):∃ a c,v = .tuple #[evV (zbD l).kind (zbD l).id a (zbD l).p.length c,.int .i64 (zfU l)]∧M.le M'∧SrcOk M' 1 a (zbD l).p.length ((zbD l).p.map zh):=by
 unfold zbD zfU
 rcases h with ⟨h1,rfl,h2⟩|⟨x,a,c,h1,rfl,h2,h3,h4⟩
 ·rw[h1]
  exact⟨none,0,rfl,h2,SrcOk.nil _ _⟩
 ·rw[h1]
  exact⟨a,c,rfl,h2,h3⟩
theorem zwW {l:List UInt8} (h:zfU l=0):zch l=some (zbD l):=by
 unfold zfU at h
 unfold zbD
 cases e:zch l with
 | none=>rw[e] at h;simp at h
 | some x=>rfl
theorem zyV (x:EvX):(zb1 x).length≤60:=by
 unfold zb1
 split
 ·rename_i h
  unfold zI
  rw[List.length_cons]
  split
  ·simp
  ·split
   ·rename_i hk
    have:=(zhq h hk).2.2
    rw[List.length_append,zbe];omega
   ·rw[zbe];omega
 ·simp
theorem back {x:EvX} (h:zck x=0):zbD (zb1 x)=x∧zfU (zb1 x)=0:=by
 have e:zb1 x=zI x:=by unfold zb1;rw[if_pos h]
 have:=zwU h
 unfold zbD zfU
 rw[e,this]
 exact⟨rfl,rfl⟩
theorem zEh {l:List UInt8} (h:zfU l=0):zck (zbD l)=0∧zb1 (zbD l)=l:=by
 obtain⟨h1,h2⟩:=zwV (zwW h)
 exact⟨h1,by unfold zb1;rw[if_pos h1,h2]⟩
end
end Go.Proofs.YtpdkkbpkplhdpaaGreat
