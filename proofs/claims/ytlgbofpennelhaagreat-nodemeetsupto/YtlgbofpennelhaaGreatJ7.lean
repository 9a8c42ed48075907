/- Part. -/
import Derived.Test.YtlgbofpennelhaaGreatJ6
set_option linter.all false
set_option maxHeartbeats 0
namespace Go.Vm
structure Pt where
 d:Nat→Prop
 ok:Mem→Mem→Prop
 live:∀ {B M:Mem} {y:Nat},ok B M→d y→M y≠none
 off:∀ {B M:Mem} {y:Nat},ok B M→d y→B y=none
 stay:∀ {B M B' M':Mem},ok B M→B.le B'→B'.le M'→(∀ y,d y→M' y=M y∧B' y=none)→ok B' M'
def zc4 (ps:List Pt):Nat→Prop:=fun y=>∃ p∈ps,p.d y
structure Sep (B M:Mem) (ps:List Pt):Prop where
 le:B.le M
 ok:∀ p∈ps,p.ok B M
 dj:ps.Pairwise fun p q=>∀ y,p.d y→¬q.d y
structure At (B0 M0:Mem) (S0:Nat→Prop) (B M:Mem) (ps:List Pt):Prop where
 le:B.le M
 ok:∀ p∈ps,p.ok B M
 dj:ps.Pairwise fun p q=>∀ y,p.d y→¬q.d y
 tn:Tn B0 M0 S0 B M (zc4 ps)
@[reducible] def rpl:List Pt→Nat→List Pt→List Pt
 | [],_,_=>[]
 | _::r,0,qs=>qs++r
 | p::r,i+1,qs=>p::rpl r i qs
section
variable {B0 M0 B M B' M':Mem} {S0:Nat→Prop} {ps qs l1 l2:List Pt} {p q:Pt}
theorem mem_cut {r:Pt}:r∈l1++p::l2↔r=p∨r∈l1∨r∈l2:=by grind
theorem Sep.turn (h:Sep B M (l1++p::l2)) (t:Tn B M p.d B' M' (zc4 qs)) (hs:Sep B' M' qs):Sep B' M' (l1++(qs++l2))∧∀ r,r∈l1∨r∈l2→∀ y,r.d y→M' y=M y∧B' y=none:=by
 have hd:=h.dj;rw[Yax,Yx] at hd;obtain⟨d1,⟨d2,d3⟩,d4⟩:=hd;have djp:∀ r,r∈l1∨r∈l2→∀ y,r.d y→¬p.d y:=fun r hr y hy hp=>by grind
 have st:∀ r,r∈l1∨r∈l2→∀ y,r.d y→M' y=M y∧B' y=none:=fun r hr y hy=>by
  have hok:=h.ok r (mem_cut.2 (.inr hr));have hlv:=r.live hok hy
  refine⟨?_,?_⟩
  ·cases ho:M y with
   | none=>simp_all
   | some o=>exact t.keep y o (djp r hr y hy) ho
  ·cases ho:B' y with
   | none=>rfl
   | some o=>
    rcases t.fresh y (by simp_all) with h1|h1|h1
    ·exact absurd (r.off hok hy) h1
    ·simp_all
    ·grind
 have djq:∀ r,r∈l1∨r∈l2→∀ y,r.d y→¬zc4 qs y:=fun r hr y hy hq=>by
  rcases t.sup y hq with h1|h1
  ·grind
  ·exact r.live (h.ok r (mem_cut.2 (.inr hr))) hy h1
 refine⟨⟨hs.le,fun r hr=>?_,?_⟩,st⟩
 ·rw[Yy,Yy] at hr;rcases hr with hr|hr|hr
  ·exact r.stay (h.ok r (mem_cut.2 (.inr (.inl hr)))) t.bb hs.le (st r (.inl hr))
  ·exact hs.ok r hr
  ·exact r.stay (h.ok r (mem_cut.2 (.inr (.inr hr)))) t.bb hs.le (st r (.inr hr))
 ·rw[Yax,Yax];refine⟨d1,⟨hs.dj,d3,fun a ha b hb y hy hb'=>djq b (.inr hb) y hb' ⟨a,ha,hy⟩⟩,fun a ha b hb y hy hb'=>?_⟩;rcases Yy.1 hb with hb|hb
  ·exact djq a (.inl ha) y hy ⟨b,hb,hb'⟩
  ·grind
theorem zyA:∀ {ps:List Pt} {i:Nat} {p:Pt},ps[i]? = some p→∃ l1 l2,ps=l1++p::l2∧∀ qs,rpl ps i qs=l1++(qs++l2)
 | [],_,_,h=>by grind
 | a::r,0,p,h=>by simp at h;subst h;exact⟨[],r,rfl,fun _=>rfl⟩
 | a::r,i+1,p,h=>by
  obtain⟨l1,l2,e,f⟩:=zyA (ps:=r) (i:=i) (p:=p) (by simp_all);exact⟨a::l1,l2,by simp_all,fun qs=>by simp_all⟩
theorem At.sep (h:At B0 M0 S0 B M ps):Sep B M ps:=⟨h.le,h.ok,h.dj⟩
theorem Sep.at (h:Sep B M ps):At B M (zc4 ps) B M ps:=⟨h.le,h.ok,h.dj,Tn.refl _ _ _⟩
theorem At.turn (h:At B0 M0 S0 B M ps) (i:Nat) (hi:ps[i]? = some p) (t:Tn B M p.d B' M' (zc4 qs)) (hs:Sep B' M' qs):At B0 M0 S0 B' M' (rpl ps i qs):=by
 obtain⟨l1,l2,rfl,e⟩:=zyA hi;rw[e];have h2:=(h.sep.turn t hs).1
 refine⟨h2.le,h2.ok,h2.dj,h.tn.trans ⟨t.bb,fun y o hy ho=>t.keep y o (fun hp=>hy ⟨p,by simp,hp⟩) ho,fun y hy=>(t.fresh y hy).imp id (Or.imp id fun hp=>⟨p,by simp,hp⟩),fun y ⟨r,hr,hy⟩=>?_⟩⟩;rw[Yy,Yy] at hr;rcases hr with hr|hr|hr
 ·exact .inl ⟨r,by grind,hy⟩
 ·exact(t.sup y ⟨r,hr,hy⟩).imp (fun hp=>⟨p,by simp,hp⟩) id
 ·exact .inl ⟨r,by grind,hy⟩
theorem At.call (h:At B0 M0 S0 B M ps) (i:Nat) (hi:ps[i]? = some p) (h':At B M p.d B' M' qs):At B0 M0 S0 B' M' (rpl ps i qs):=h.turn i hi h'.tn h'.sep
theorem zh4:∀ (ps:List Pt) (p:Pt) (qs:List Pt),rpl (ps++[p]) ps.length qs=ps++qs
 | [],p,qs=>by simp
 | a::r,p,qs=>by show a::rpl (r++[p]) r.length qs=_;rw[zh4 r];rfl
theorem At.last (h:At B0 M0 S0 B M (ps++[p])) (h':At B M p.d B' M' qs):At B0 M0 S0 B' M' (ps++qs):=by
 have:=h.call ps.length oS h'
 rwa [zh4] at this
theorem zgY (p:Pt):zc4 [p]=p.d:=by funext y;simp[zc4]
theorem At.of (ok:p.ok B' M') (le:B'.le M') (t:Tn B M S0 B' M' p.d):At B M S0 B' M' [p]:=
 ⟨le,fun q hq=>by simp_all,Yay .., by rw[zgY];exact t⟩
theorem At.one (h:At B0 M0 S0 B M [p]):p.ok B M∧Tn B0 M0 S0 B M p.d:=⟨h.ok p oS,by have:=h.tn;rwa [zgY] at this⟩
theorem At.lastIn (h:At B0 M0 S0 B M (ps++[p])):At B M p.d B M [p]:=At.of (h.ok p oS) h.le (Tn.refl _ _ _)
theorem At.part (h:At B0 M0 S0 B M ps) (i:Nat) (hi:ps[i]? = some p):p.ok B M:=h.ok p (Yao hi)
theorem At.grow (h:At B0 M0 S0 B M ps) (hB:B.le B') (hM:M.le M') (hB':B'.le M') (hf:∀ y,B' y≠none→B y≠none∨M y=none):At B0 M0 S0 B' M' ps:=by
 refine⟨hB',fun p hp=>p.stay (h.ok p hp) hB hB' fun y hy=>?_,h.dj,h.tn.trans (Tn.le hB hM hf)⟩;have hl:=p.live (h.ok p hp) hy
 refine⟨?_,?_⟩
 ·cases ho:M y with
  | none=>simp_all
  | some o=>exact hM _ _ ho
 ·cases ho:B' y with
  | none=>rfl
  | some o=>
   rcases hf y (by simp_all) with h1|h1
   ·exact absurd (p.off (h.ok p hp) hy) h1
   ·simp_all
theorem At.up (h:At B0 M0 S0 B M ps) (hM:M.le M'):At B0 M0 S0 B M' ps:=h.grow (Ya _) hM (Yc h.le hM) fun _ h => .inl h
theorem At.more (h:At B0 M0 S0 B M ps) (hM:M.le M') (hp:p.ok B M') (hn:∀ y,p.d y→M y=none):At B0 M0 S0 B M' (ps++[p]):=by
 have h1:=h.up hM;refine⟨h1.le,fun q hq=>?_,?_,h1.tn.bb,h1.tn.keep,h1.tn.fresh,fun y ⟨q,hq,hy⟩=>?_⟩
 ·rcases Yy.1 hq with hq|hq
  ·exact h1.ok q hq
  ·simp_all
 ·rw[Yax];refine⟨h.dj,Yay .., fun a ha b hb y hy hb'=>?_⟩;rw[Y0.1 hb] at hb';exact a.live (h.ok a ha) hy (hn y hb')
 ·rcases Yy.1 hq with hq|hq
  ·exact h1.tn.sup y ⟨q,hq,hy⟩
  ·rw[Y0.1 hq] at hy;exact h.tn.dead (hn y hy)
theorem At.drop (h:At B0 M0 S0 B M ps) (i:Nat) (hi:ps[i]? = some p):At B0 M0 S0 B M (rpl ps i []):=
 h.turn i hi ⟨Ya _,Yas _ _,fun _ h => .inl h,fun y ⟨q,hq,_⟩=>by grind⟩ ⟨h.le,fun q hq=>(by grind),List.Pairwise.nil⟩
theorem At.view (h:At B0 M0 S0 B M ps) (i:Nat) (hi:ps[i]? = some p) (hq:q.ok B M) (hd:∀ y,q.d y→p.d y):At B0 M0 S0 B M (rpl ps i [q]):=
 h.turn i hi ⟨Ya _,Yas _ _,fun _ h => .inl h,fun y ⟨r,hr,hy⟩ => .inl (hd y (by simp_all))⟩ ⟨h.le,fun r hr=>by simp_all,Yay ..⟩
theorem At.perm (h:At B0 M0 S0 B M ps) (hp:ps.Perm qs):At B0 M0 S0 B M qs:=
 ⟨h.le,fun q hq=>h.ok q (hp.mem_iff.2 hq),hp.pairwise h.dj fun {a b} hab y hb ha=>hab y ha hb,by
  have e:zc4 qs=zc4 ps:=by funext y;exact propext ⟨fun ⟨q,hq,hy⟩=>⟨q,hp.mem_iff.2 hq,hy⟩,fun ⟨q,hq,hy⟩=>⟨q,hp.mem_iff.1 hq,hy⟩⟩
  rw[e];exact h.tn⟩
def comp (ps:List Pt):Pt:=⟨zc4 ps,fun B M=>Sep B M ps,fun h ⟨p,hp,hy⟩=>p.live (h.ok p hp) hy,fun h ⟨p,hp,hy⟩=>p.off (h.ok p hp) hy,
 fun h hB hle hs=>⟨hle,fun p hp=>p.stay (h.ok p hp) hB hle fun y hy=>hs y ⟨p,hp,hy⟩,h.dj⟩⟩
theorem At.pack (h:At B0 M0 S0 B M ps):At B0 M0 S0 B M [comp ps]:=At.of h.sep h.le h.tn
theorem At.inn (h:At B0 M0 S0 B M ps) (i:Nat) (hi:ps[i]? = some p):At B M p.d B M [p]:=At.of (h.part i hi) h.le (Tn.refl _ _ _)
end
def newB (B M M':Mem):Mem:=fun y=>match M y with|none=>M' y|some _=>B y
section
variable {B0 M0 B M M':Mem} {S0:Nat→Prop} {ps:List Pt} {p q:Pt}
theorem zeN (h:B.le M):B.le (newB B M M'):=fun y o ho=>by unfold newB;rw[h y o ho];exact ho
theorem zyB (h:B.le M'):(newB B M M').le M':=fun y o ho=>by
 unfold newB at ho;split at ho
 ·omega
 ·exact h y o ho
theorem zc5 {s n:Nat} {a:Option Addr} {L:List Value} (h:SrcOk M' s a n L) (hn:∀ r,a=some r→M r.block=none):SrcOk (newB B M M') s a n L:=by
 refine zgX h fun r hr=>?_
 unfold newB;rw[hn r hr]
theorem At.turnS (h:At B0 M0 S0 B M ps) (i:Nat) (hi:ps[i]? = some p) (hk:Mem.keep p.d M M') (hd:∀ y,q.d y→p.d y) (hok:B.le M'→q.ok B M'):At B0 M0 S0 B M' (rpl ps i [q]):=by
 have hle:B.le M':=hk.le h.le fun y hy=>p.off (h.part i hi) hy
 exact h.call i hi (At.of (hok hle) hle ⟨Ya _,hk,fun _ h => .inl h,fun y hy => .inl (hd y hy)⟩)
theorem At.turnN (h:At B0 M0 S0 B M ps) (i:Nat) (hi:ps[i]? = some p) (hk:Mem.keep p.d M M') (hd:∀ y,q.d y→p.d y) (hok:(newB B M M').le M'→q.ok (newB B M M') M'):At B0 M0 S0 (newB B M M') M' (rpl ps i [q]):=by
 have hle:B.le M':=hk.le h.le fun y hy=>p.off (h.part i hi) hy
 have hle':=zyB (M:=M) hle;refine h.call i hi (At.of (hok hle') hle' ⟨zeN h.le,hk,fun y hy=>?_,fun y hy => .inl (hd y hy)⟩);unfold newB at hy;split at hy
 ·simp_all
 ·simp_all
theorem At.upN (h:At B0 M0 S0 B M ps) (hM:M.le M'):At B0 M0 S0 (newB B M M') M' ps:=
 h.grow (zeN h.le) hM (zyB (Yc h.le hM)) fun y hy=>by
  unfold newB at hy;split at hy
  ·simp_all
  ·simp_all
end
section
variable {B0 M0 B M B' M':Mem} {S0:Nat→Prop} {ps:List Pt} {b:Nat} {E:TypeId} {cs:List Value}
theorem zkw {y:Nat} (h:M.has y E cs) (hs:M' y=M y):M'.has y E cs:=by unfold Mem.has at h ⊢; rw[hs];exact h
def zby (b:Nat) (E:TypeId) (cs:List Value):Pt:=⟨fun y=>y=b,fun B M=>M.has b E cs∧B b=none,
 fun h e=>by rw[e];have:=h.1;unfold Mem.has at this;rw[this];simp,fun h e=>by simp_all,fun h _ _ hs=>⟨zkw h.1 (hs b rfl).1,(hs b rfl).2⟩⟩
theorem zfn {a:Option Addr} {s n c:Nat} {L:List Value} (h:NewSl B E s a n c L M) {y:Nat} (hy:blk a y):M y≠none∧B y=none:=by
 obtain⟨r,hr,rfl⟩:=hy;obtain⟨h1,cs,h2⟩:=h.block hr;unfold Mem.has at h2;exact⟨by simp_all,h1⟩
theorem zp0 {a:Option Addr} {s n c:Nat} {L:List Value} (h:NewSl B E s a n c L M) (hle:B'.le M') (hs:∀ y,blk a y→M' y=M y∧B' y=none):NewSl B' E s a n c L M':=by
 rw[newSl_iff] at h ⊢;obtain⟨-, h4,h5,h6⟩:=h;exact⟨hle,h4,h5,h6.imp id fun ⟨b,cs,ha,hb,hh,hl,ht⟩=>⟨b,cs,ha,(hs b ⟨_,ha,rfl⟩).2,zkw hh (hs b ⟨_,ha,rfl⟩).1,hl,ht⟩⟩
def zaB (E:TypeId) (s:Nat) (a:Option Addr) (n c:Nat) (L:List Value):Pt:=⟨blk a,fun B M=>NewSl B E s a n c L M,
 fun h hy=>(zfn h hy).1,fun h hy=>(zfn h hy).2,fun h _ hle hs=>zp0 h hle hs⟩
def zJu {α:Type} (E:TypeId) (s:Nat) (R:Mem→List Value→α→Prop) (hR:∀ {B B':Mem} {v x},R B v x→B.le B'→R B' v x) (a:Option Addr) (n c:Nat) (x:α):Pt:=
 ⟨blk a,fun B M=>∃ L,NewSl B E s a n c L M∧R B L x,fun ⟨_,h,_⟩ hy=>(zfn h hy).1,fun ⟨_,h,_⟩ hy=>(zfn h hy).2,fun ⟨L,h,hr⟩ hB hle hs=>⟨L,zp0 h hle hs,hR hr hB⟩⟩
section
variable {κ α:Type} [DecidableEq κ] {kv:κ→Value} {vv:α→Value}
theorem zfo {m:List (κ×α)} (h:MapAt kv vv M b m):M b≠none:=by obtain⟨l,c,h, -⟩:=h;rw[h];simp
def zgn (kv:κ→Value) (vv:α→Value) (b:Nat) (m:List (κ×α)):Pt:=⟨fun y=>y=b,fun B M=>MapAt kv vv M b m∧B b=none,
 fun h e=>by rw[e];exact zfo h.1,fun h e=>by simp_all,fun h _ _ hs=>⟨h.1.mono fun o ho=>by simp_all,(hs b rfl).2⟩⟩
theorem zBK {b m:Nat} {cur todo:List (κ×α)} (h:Iter kv vv M b m cur todo):M b≠none:=by obtain⟨l,c,seen,tb,h1,h2,h3,h4, -⟩:=h;rw[h4];simp
def zu7 (kv:κ→Value) (vv:α→Value) (b m:Nat) (cur todo:List (κ×α)):Pt:=⟨fun y=>y=b∨y=m,fun B M=>Iter kv vv M b m cur todo∧B b=none∧B m=none,
 fun h e=>by
  rcases e with rfl|rfl
  ·exact zBK h.1
  ·exact zfo h.1.at,
 fun h e=>by grind,
 fun h _ _ hs=>⟨h.1.mono fun c o hc ho=>by grind,(hs b (.inl rfl)).2,(hs _ (.inr rfl)).2⟩⟩
end
theorem At.c (h:At B0 M0 S0 B M ps) {qs:List Pt} (e:ps=qs):At B0 M0 S0 B M qs:=e▸h
theorem At.cell (h:At B0 M0 S0 B M ps) (i:Nat) (hi:ps[i]? = some (zby b E cs)):M.has b E cs:=(h.part i hi).1
theorem At.sto (h:At B0 M0 S0 B M ps) (i:Nat) (hi:ps[i]? = some (zby b E cs)) (cs':List Value):At B0 M0 S0 B (M.setCells b E cs') (rpl ps i [zby b E cs']):=by
 have hp:=h.part i hi;have hle:B.le (M.setCells b E cs'):=le_upd h.le hp.2
 have t:Tn B M (zby b E cs).d B (M.setCells b E cs') (zc4 [zby b E cs']):=by rw[zgY];exact Tn.upd (rfl:(zby b E cs).d b)
 exact h.turn i hi t ⟨hle,fun q hq=>by rw[Y0.1 hq];exact⟨Yg,hp.2⟩,Yay ..⟩
theorem At.stoV (h:At B0 M0 S0 B M ps) (i:Nat) (hi:ps[i]? = some (zby b E cs)) {o n:Nat} {vs:List Value} {k:Mem→Prop} (hn:o+n≤cs.length)
  (hk:∀ M1,At B0 M0 S0 B M1 (rpl ps i [zby b E (zd cs o vs)])→k M1):zc9 M b o n vs k:=on (h.cell i hi).cells (ob hn (hk _ (h.sto i hi _)))
theorem At.newV (h:At B0 M0 S0 B M ps) {vs:List Value} {k:Nat→Mem→Prop} (hk:∀ b M1,At B0 M0 S0 B M1 (ps++[zby b E vs])→k b M1):zeK M E vs k:=fun b hb=>
 hk b _ (h.more (Yw hb) ⟨Yg,by
  cases ho:B b with
  | none=>rfl
  | some o=>rw[h.le _ _ ho] at hb;cases hb⟩ fun y hy=>by rw[show y=b from hy];exact hb)
theorem At.fresh (M:Mem):At M M (fun _=>False) M M []:=⟨Ya _,fun p hp=>(by grind),List.Pairwise.nil,⟨Ya _,Yas _ _,fun _ h => .inl h,fun y ⟨p,hp,_⟩=>by grind⟩⟩
theorem At.newRV (h:At B0 M0 S0 B M ps) {s n:Nat} {vs:List Value} {k:Nat→Mem→Prop} (hl:vs.length=n*s) (hk:∀ b M1,At B0 M0 S0 B M1 (ps++[zaB E s (some ⟨b,0,none⟩) n n vs])→k b M1):zeK M E vs k:=fun b hb=>
 hk b _ (h.more (Yw hb) ((Ybc hb E s n vs hl).mono h.le) fun y ⟨q,hq,e⟩=>by grind)
theorem At.row0 (h:At B0 M0 S0 B M ps) (E:TypeId) (s:Nat):At B0 M0 S0 B M (ps++[zaB E s none 0 0 []]):=
 h.more (Ya _) ((Yaw M E s).mono h.le) fun y ⟨q,hq,_⟩=>by grind
theorem At.newR (h:At B0 M0 S0 B M ps) {s n c:Nat} {a:Option Addr} {L:List Value} (hN:NewSl M E s a n c L M'):At B0 M0 S0 B M' (ps++[zaB E s a n c L]):=
 h.more hN.le (hN.mono h.le) fun y hy=>by obtain⟨r,hr,rfl⟩:=hy;exact(hN.block hr).1
theorem At.appV (h:At B0 M0 S0 B M ps) (i:Nat) {s bytes n c m:Nat} {a:Option Addr} {L news:List Value} {k:Option Addr→Nat→Mem→Prop} (hi:ps[i]? = some (zaB E s a n c L))
  (h1:(n+m)*bytes≤140737488355328) (h2:n+m≤maxLen) (h3:∀ u∈news,u.oneCell'=true) (hk:∀ a' c' M1,n+m≤c'→At B0 M0 S0 B M1 (rpl ps i [zaB E s a' (n+m) c' (L++news)])→k a' c' M1):zZ E s bytes a n c m news M k:=by
 have hown:=h.part i hi
 have fin:∀ {M1:Mem} {a' c'},NewSl B E s a' (n+m) c' (L++news) M1→Mem.keep (blk a) M M1→(∀ y,blk a' y→blk a y∨M y=none)→At B0 M0 S0 B M1 (rpl ps i [zaB E s a' (n+m) c' (L++news)]):=fun {M1 a' c'} hN hkp hb=>
  h.turn i hi ⟨Ya _,hkp,fun _ h => .inl h,by rw[zgY];exact hb⟩ ⟨hN.le,fun q hq=>by rw[Y0.1 hq];exact hN,Yay ..⟩
 have ownb:∀ {M1 M2:Mem} {a' c'} {L':List Value} {n':Nat},Own M1 E s a' n' c' L' M2→∀ y,blk a' y→M1 y=none:=fun {M1 M2 a' c' L' n'} ho y hy=>by
  obtain⟨q,hq,rfl⟩:=hy;obtain⟨_,_,⟨ha,_⟩|⟨b,cs,ha,hb,_⟩⟩:=ho
  ·simp_all
  ·grind
 have hcap:∀ {M1:Mem} {a' c'},NewSl B E s a' (n+m) c' (L++news) M1→n+m≤c':=fun hN=>(newSl_iff.1 hN).2.2.1
 have hown':NewSl B E s a n c L M:=hown;rw[newSl_iff] at hown';obtain⟨h0,h4,h5,⟨ha,hc⟩|⟨b,cs,ha,hb,hh,hl,ht⟩⟩:=hown'
 ·refine app M L ⟨h4,h5,.inl ⟨ha,hc,rfl⟩⟩ h1 h2 h3 fun a' c' M1 ho=>?_
  have hN:NewSl B E s a' (n+m) c' (L++news) M1:=⟨M,h0,ho⟩
  exact hk a' c' M1 (hcap hN) (fin hN (Ybt ho.base) fun y hy => .inr (ownb ho y hy))
 ·refine app (fun x=>if x=b then Option.none else M x) L ⟨h4,h5,.inr ⟨b,cs,ha,by simp,?_,hl,ht⟩⟩ h1 h2 h3 fun a' c' M1 ho=>?_
  ·funext x;simp only[Mem.setCells,Mem.upd];split
   ·rename_i e;subst e;exact hh
   ·rfl
  ·have hN:NewSl B E s a' (n+m) c' (L++news) M1:=⟨_,fun x o hx=>by
    have hne:x≠b:=fun e=>by simp_all
    simp only[if_neg hne]
    exact h0 x o hx,ho⟩
   refine hk a' c' M1 (hcap hN) (fin hN (fun x o hn hx=>?_) fun y hy=>?_)
   ·have hne:x≠b:=fun e=>hn ⟨_,ha,e.symm⟩
    exact ho.base x o (by simp_all)
   ·have:=ownb ho y hy;split at this
    ·rename_i e;exact .inl ⟨_,ha,e.symm⟩
    ·simp_all
theorem At.row (h:At B0 M0 S0 B M ps) (i:Nat) {s n c:Nat} {a:Option Addr} {L:List Value} (hi:ps[i]? = some (zaB E s a n c L)):NewSl B E s a n c L M:=h.part i hi
theorem zqH {s n c:Nat} {a:Option Addr} {L:List Value} (hN:NewSl B E s a n c L M):∃ B':Mem,B.le B'∧B'.le M∧SrcOk B' s a n L∧Tn B M (blk a) B' M fun _=>False:=by
 refine⟨fun y=>open Classical in if blk a y then M y else B y,fun y o ho=>?_,fun y o ho=>?_,?_,fun y o ho=>?_,Yas _ _,fun y hy=>?_,fun y hy=>hy.elim⟩
 ·have hb:¬blk a y:=fun hb=>by rw[(zfn hN hb).2] at ho;cases ho
  simp only[if_neg hb];exact ho
 ·by_cases hb:blk a y
  ·simp_all
  ·simp only[if_neg hb] at ho;exact hN.le _ _ ho
 ·have hs:=hN.src;unfold SrcOk at hs ⊢;refine⟨hs.1,hs.2.imp id fun ⟨b,o,e,hr⟩=>⟨b,o,e,?_⟩⟩;subst e;unfold Mem.row at hr ⊢;have:blk (some (⟨b,o,none⟩:Addr)) b:=⟨_,rfl,rfl⟩
  simp only[if_pos this];exact hr
 ·have hb:¬blk a y:=fun hb=>by rw[(zfn hN hb).2] at ho;cases ho
  simp only[if_neg hb];exact ho
 ·grind
theorem At.cede (h:At B0 M0 S0 B M ps) (i:Nat) {s n c:Nat} {a:Option Addr} {L:List Value} (hi:ps[i]? = some (zaB E s a n c L)):∃ B',B.le B'∧SrcOk B' s a n L∧At B0 M0 S0 B' M (rpl ps i []):=by
 obtain⟨B',h1,h2,h3,t⟩:=zqH (h.row i hi);exact⟨B',h1,h3,h.turn i hi ⟨t.bb,t.keep,t.fresh,fun y ⟨q,hq,_⟩=>by grind⟩ ⟨h2,fun q hq=>(by grind),List.Pairwise.nil⟩⟩
theorem At.nil (h:At B0 M0 S0 B M ps) (i:Nat) {p:Pt} (hi:ps[i]? = some p) (E:TypeId) (s:Nat):At B0 M0 S0 B M (rpl ps i [zaB E s none 0 0 []]):=
 h.view i hi ((Yaw M E s).mono h.le) fun y ⟨r,hr,_⟩=>by grind
theorem At.take (h:At B0 M0 S0 B M ps) (i:Nat) {s n c:Nat} {a:Option Addr} {L:List Value} (hi:ps[i]? = some (zaB E s a n c L)):∃ B',B.le B'∧SrcOk B' s a n L∧At B0 M0 S0 B' M (rpl ps i [zaB E s none 0 0 []]):=by
 obtain⟨B',h1,h2,h3,t⟩:=zqH (h.row i hi)
 exact⟨B',h1,h3,h.turn i hi ⟨t.bb,t.keep,t.fresh,fun y ⟨q,hq,hy⟩=>by rw[Y0.1 hq] at hy;obtain⟨r,hr,_⟩:=hy;cases hr⟩
  ⟨h2,fun q hq=>by rw[Y0.1 hq];exact(Yaw M E s).mono h2,Yay ..⟩⟩
section
variable {κ α:Type} [DecidableEq κ] {kv:κ→Value} {vv:α→Value} {m:List (κ×α)}
theorem At.updO (h:At B0 M0 S0 B M ps) (i:Nat) {p q:Pt} (hi:ps[i]? = some p) {x:Obj} (hb:p.d b) (hq:∀ y,q.d y→p.d y∨M y=none) (hn:q.ok B (M.upd b x)):At B0 M0 S0 B (M.upd b x) (rpl ps i [q]):=
 h.turn i hi ⟨Ya _,Yad _ _ hb,fun _ h => .inl h,by rw[zgY];exact hq⟩ ⟨le_upd h.le (p.off (h.part i hi) hb),fun r hr=>by simp_all,Yay ..⟩
theorem At.putV (h:At B0 M0 S0 B M ps) (i:Nat) (hi:ps[i]? = some (zgn kv vv b m)) (hk:zeE kv) (key:κ) (x:α) {k:Mem→Prop} (hK:∀ M1,At B0 M0 S0 B M1 (rpl ps i [zgn kv vv b (zt m key x)])→k M1):zef M b (kv key) (vv x) k:=
 (h.part i hi).1.put hk key x fun p f hM=>hK _ (h.updO i hi rfl (fun y hy => .inl hy) ⟨hM M,(h.part i hi).2⟩)
theorem At.delV (h:At B0 M0 S0 B M ps) (i:Nat) (hi:ps[i]? = some (zgn kv vv b m)) (hk:zeE kv) (key:κ) {k:Mem→Prop} (hK:∀ M1,At B0 M0 S0 B M1 (rpl ps i [zgn kv vv b (zaO m key)])→k M1):zeg M b (kv key) k:=
 (h.part i hi).1.del hk key fun p f hM=>hK _ (h.updO i hi rfl (fun y hy => .inl hy) ⟨hM M,(h.part i hi).2⟩)
theorem At.mapV (h:At B0 M0 S0 B M ps) {k:Nat→Mem→Prop} (hK:∀ b M1,At B0 M0 S0 B M1 (ps++[zgn kv vv b []])→k b M1):zfF M (.map #[] 0) k:=fun b hb=>
 hK b _ (h.more (Ya8 hb) ⟨Ydq M b,by
  cases ho:B b with
  | none=>rfl
  | some o=>rw[h.le _ _ ho] at hb;cases hb⟩ fun y hy=>by rw[show y=b from hy];exact hb)
theorem At.rangeV (h:At B0 M0 S0 B M ps) (i:Nat) (hi:ps[i]? = some (zgn kv vv b m)) {K:Nat→Mem→Prop} (hK:∀ it M1,At B0 M0 S0 B M1 (rpl ps i [zu7 kv vv it b m m])→K it M1) :
  onO (M.mapAt b) fun p=>zfF M (.mapIter (some b) p.2 #[] p.2) K:=
 (h.part i hi).1.range fun p it hit hI=>by
  have hle:=Ya8 (x := .mapIter (some b) p.2 #[] p.2) hit
  have hB:B it=none:=by
   cases ho:B it with
   | none=>rfl
   | some o=>rw[h.le _ _ ho] at hit;cases hit
  refine hK it _ (h.turn i hi ⟨Ya _,Ybt hle,fun _ h => .inl h,by rw[zgY];rintro y (rfl|rfl);exact .inr hit;exact .inl rfl⟩ ⟨Yc h.le hle,fun r hr=>by rw[Y0.1 hr];exact⟨hI,hB,(h.part i hi).2⟩,Yay ..⟩)
theorem At.nextV (h:At B0 M0 S0 B M ps) (i:Nat) {it:Nat} {cur todo:List (κ×α)} (hi:ps[i]? = some (zu7 kv vv it b cur todo)) {A:Prop} {k:SV→Mem→Prop}
  (h0:todo=[]→At B0 M0 S0 B M (rpl ps i [zgn kv vv b cur])→k (.c (.v (.tuple #[.bool false]))) M)
  (h1:∀ key x todo' M1,todo.Perm ((key,x)::todo')→At B0 M0 S0 B M1 (rpl ps i [zu7 kv vv it b cur todo'])→zC M1 it=some (kv key,vv x)→k (.c (.v (.tuple #[.bool true,kv key,vv x]))) M1) :
  onO (M.iterAt it) fun t=>zkQ t.1 A (fun m=>onO (M.mapAt m) fun p=>zO M it t.2.1 t.2.2.2 m t.2.2.1 p.1 p.2 k):=by
 have hp:=h.part i hi;refine hp.1.next (fun e=>h0 e ?_) fun key x todo' o hperm hI he=>h1 key x todo' _ hperm (h.updO i hi (.inl rfl) (fun y hy => .inl hy) ⟨hI,hp.2⟩) he
 exact h.turn i hi ⟨Ya _,Yas _ _,fun _ h => .inl h,by rw[zgY];exact fun y hy => .inl (.inr hy)⟩ ⟨h.le,fun r hr=>by rw[Y0.1 hr];exact⟨hp.1.at,hp.2.2⟩,Yay ..⟩
end
theorem zA {p A B:Prop} (h:p) (a:A) (k:p→A→B:=by intro h a;(repeat' (first|refine⟨?_,True.intro⟩|refine Go.Vm.brn_t rfl ?_|refine Go.Vm.brn_f rfl ?_|refine Go.Vm.ob rfl ?_|refine Go.Vm.ob oD ?_|refine Go.Vm.obr rfl ?_|refine Go.Vm.grow_same (Go.Vm.Mem.le_refl _) ?_|refine Go.Vm.ob (Go.Vm.Mem.le_refl _) ?_|refine Go.Vm.on (Go.Vm.Mem.has.c1 (Go.Vm.At.cell h 0 rfl) rfl) ?_|refine Go.Vm.on (Go.Vm.Mem.has.c1 (Go.Vm.At.cell h 1 rfl) rfl) ?_|refine Go.Vm.on (Go.Vm.Mem.has.c1 (Go.Vm.At.cell h 2 rfl) rfl) ?_|refine Go.Vm.on (Go.Vm.Mem.has.c1 (Go.Vm.At.cell h 3 rfl) rfl) ?_|refine⟨_,Go.Vm.Mem.le_refl _,?_⟩|fail));exact a):B:=k h a
theorem zzX {M:Mem} {E:TypeId} {vs:List Value} {k:Nat→Mem→Prop} (h:∀ b M',M b=none→M.le M'→M'.has b E vs→(∀ y,y≠b→M' y=M y)→k b M'):zeK M E vs k:=fun b hb=>h b _ hb (Yw hb) Yg fun y hy=>Yh _ _ hy
theorem zfs {b:Bool} {A B:Prop} (h:b=true→A) (h':b=false→B):lit b A B:=by cases b;exact h' rfl;exact h rfl
def objP {ι:Type} (d:Nat→Prop) (ps:ι→List Pt) (R:Mem→ι→Prop) (hd:∀ i y,zc4 (ps i) y↔d y) (hR:∀ (B B':Mem) (i:ι),R B i→B.le B'→R B' i):Pt:=
 ⟨d,fun B M=>∃ i,Sep B M (ps i)∧R B i,fun ⟨i,h,_⟩ hy=>by obtain⟨p,hp,hy⟩:=(hd i _).2 hy;exact p.live (h.ok p hp) hy,fun ⟨i,h,_⟩ hy=>by obtain⟨p,hp,hy⟩:=(hd i _).2 hy;exact p.off (h.ok p hp) hy,
  fun ⟨i,h,hr⟩ hB hle hs=>⟨i,⟨hle,fun p hp=>p.stay (h.ok p hp) hB hle fun y hy=>hs y ((hd i y).1 ⟨p,hp,hy⟩),h.dj⟩,hR _ _ _ hr hB⟩⟩
section
variable {ι:Type} {d:Nat→Prop} {qs:ι→List Pt} {R:Mem→ι→Prop} {hd:∀ i y,zc4 (qs i) y↔d y} {hR:∀ (B B':Mem) (i:ι),R B i→B.le B'→R B' i}
theorem zsX (h:∃ i,Sep B M (qs i)∧R B i) (hd:∀ i y,zc4 (qs i) y↔d y):∃ i,At B M d B M (qs i)∧R B i:=by
 obtain⟨i,h,hr⟩:=h;have e:zc4 (qs i)=d:=funext fun y=>propext (hd i y)
 exact⟨i,e▸h.at,hr⟩
theorem objP.cls {i:ι} (h:At B0 M0 S0 B M (qs i)) (hr:R B i):At B0 M0 S0 B M [objP d qs R hd hR]:=by
 have e:zc4 (qs i)=d:=funext fun y=>propext (hd i y)
 exact At.of ⟨i,h.sep,hr⟩ h.le (e▸h.tn)
end
end
end Go.Vm
namespace Go.Proofs.YtlgbofpennelhaaGreat
open Go Go.Vm
def zb9 (a b:Int):Int:=(b - a) % 128
def zbY (base:Int) (n:Nat):List Int:=(List.range n).map fun i:Nat=>(base+i) % 128
def zaF (size:Int):Nat:=(min size 128).toNat
def zfk (l:List Int) (n:Int):Bool:=l.any fun x=>decide (x % 128=n)
def zht (base:Int) (l:List Int):List Int:=(zbY base 128).filter (zfk l)
def zkx (base to:Int) (l:List Int):List Int:=(zbY base (zb9 base to).toNat).filter fun n => !zfk l n
end Go.Proofs.YtlgbofpennelhaaGreat
namespace Go.Vm
open Go.RowKit
theorem WLe.refl (W:World):WLe W W:=⟨rfl,rfl,rfl,Yd _,Yd _,fun _ _ h=>h⟩
theorem CallsM.world {P:Program} {f:Nat} {args:List Value} {M:Mem} {R:Value→Mem→Prop} (h:CallsM P f args M R) {w:World} (hM:M.le (zk w)) (hR:∀ v M',R v M'→M.le M') :
  Calls P f args.toArray w fun e w'=>∃ v M',e = .returned v∧R v M'∧M'.le (zk w')∧WLe w w'∧∀ b,M b=none→M' b≠none→w.heap.size≤b:=by
 obtain⟨F,hF⟩:∃ F:Mem,F=fun b=>if M b=none then zk w b else none:=⟨_,rfl⟩
 refine(h.2 F w hM (fun b o hb=>?_) (fun b=>?_)).mono ?_
 ·rw[hF] at hb;dsimp only at hb;split at hb
  ·exact hb
  ·cases hb
 ·by_cases e:M b=none
  ·exact .inl e
  ·right;rw[hF];dsimp only;rw[if_neg e]
 ·rintro e w' ⟨v,M',he,hr,hM',hF',hdj,h1,h2,h3,h4,h5⟩;refine⟨v,M',he,hr,hM',⟨h1,h2,h3,h5,h4,fun k o hk=>?_⟩,fun b hb hb'=>?_⟩
  ·by_cases e:M k=none
   ·exact hF' k o (by rw[hF];dsimp only;rw[if_pos e];exact hk)
   ·obtain⟨z,hz⟩:=Yba.1 e;have h6:=hM k z hz
    have:o=z:=Yb2 (hk.symm.trans h6);subst this;exact hM' k o (hR v M' hr k o hz)
  ·have h6:=(hdj b).resolve_left hb';rw[hF] at h6;dsimp only at h6;rw[if_pos hb] at h6;apply Ybe;intro hlt;have:w.heap[b]? = none:=h6
   rw[Array.getElem?_eq_none_iff] at this;exact hlt this
theorem rangeV {P:Program} {asg body:(Exit→St→Prop)→St→Prop} {ps:List Nat} {gf:Nat} {lb:List Value} {Q:Exit→St→Prop} {fr:List (Nat×SV)} {bx:List BE} {M:Mem} {α:Type} {encs:α→List Value} {A:Mem} {N:Nat} {PM:α→Mem→Prop} {D:List α→Prop}
  (hit:zu2 P gf lb encs A N PM D) (hen:zdZ P gf=true) (hbx:bx.all zFH=true) (hA:A.le M) (hlen:∀ x,(encs x).length=ps.length) (I:List α→Mem→Prop) (M0:Mem) (hM0:M0.le M) (hAM:∀ b,A b≠none→M0 b=none) (hI:I [] M0)
  (hround:∀ pre x M Mx M1,I pre M→pre.length<N→PM x Mx→(∀ b,Mx b≠none→M b=none∧A b=none)→M.le M1→Mx.le M1 →
   asg (fun e t=>e = .normal∧body (fun e t'=>e = .normal∧∃ M2,I (pre++[x]) M2∧M2.le t'.M) t) ⟨zzw ps (encs x) fr,bx,M1⟩)
  (hdone:∀ xs M M1,D xs→I xs M→(∀ b,A b≠none→M b=none)→M.le M1→A.le M1→Q .normal ⟨fr,bx,M1⟩):zyt P asg body ps gf lb Q ⟨fr,bx,M⟩:=
 ⟨hen,hbx,α,encs,A,N,PM,D,I,hit,hA,hlen,⟨M0,hM0,hAM,hI⟩,hround,hdone⟩
end Go.Vm
def Yd0 := @Go.Vm.At.fresh
def Yd1 := @Go.Vm.WLe.refl
