/- Part of this proof;laid by program. -/
import Derived.Test.YtpnhjkiligohnaaGreatDoorJ16
set_option linter.unusedVariables false
set_option linter.unusedSimpArgs false
namespace Go.Vm.Rn
open Go.Vm
set_option linter.unusedVariables false
section
variable {σ:List E} {s:S} {t:St} {y:Out} {nb:Nat}
theorem OR.some {e:E} {o:O} {M:Mem} (h:OR σ e o M) (hn:e.nil=false):∃ ob,M e.addr=some ob:=by
 cases o with
 | row T l=>obtain⟨-, _, -, h⟩:=h;exact⟨_,h⟩
 | ro T l=>obtain⟨-, _, -, h⟩:=h;exact⟨_,h⟩
 | gr T z l=>
  obtain⟨_, -, ⟨h, -⟩|⟨-, h, -⟩⟩:=h
  ·rw[hn] at h;cases h
  ·exact⟨_,h⟩
 | mp es c=>obtain⟨-, _, -, h⟩:=h;exact⟨_,h⟩
 | it m a s t=>obtain⟨-, _, -, h⟩:=h;exact⟨_,h⟩
 | si l p=>exact⟨_,h.2⟩
theorem OR.frame {e:E} {o:O} {M M':Mem} (h:OR σ e o M) (hM:e.nil=false→M' e.addr=M e.addr):OR σ e o M':=by
 cases o with
 | row T l=>obtain⟨h0,vs,h1,h⟩:=h;exact⟨h0,vs,h1,by rw[hM h0];exact h⟩
 | ro T l=>obtain⟨h0,vs,h1,h⟩:=h;exact⟨h0,vs,h1,by rw[hM h0];exact h⟩
 | gr T z l=>
  obtain⟨vs,h1,h|⟨h0,h,h2⟩⟩:=h
  ·exact⟨vs,h1,.inl h⟩
  ·exact⟨vs,h1,.inr ⟨h0,by rw[hM h0];exact h,h2⟩⟩
 | mp es c=>obtain⟨h0,vs,h1,h⟩:=h;exact⟨h0,vs,h1,by rw[hM h0];exact h⟩
 | it m a s t=>obtain⟨h0,vs,h1,h⟩:=h;exact⟨h0,vs,h1,by rw[hM h0];exact h⟩
 | si l p=>exact⟨h.1,by rw[hM h.1];exact h.2⟩
namespace HR
variable {H:T O} {M M':Mem}
theorem new (h:HR σ H M) {e:E} {o:O} (hM:∀ x,(e.nil=false→x≠e.addr)→M' x=M x) (hn:e.nil=false→M e.addr=none) (ho:OR (σ++[e]) e o M'):HR (σ++[e]) (H.put σ.length (some o)) M':=by
 have hlast:(σ++[e])[σ.length]? = some e:=by simp
 have old:∀ a oa,H.get a=some oa→∃ ea,(σ++[e])[a]? = some ea∧σ[a]? = some ea∧OR σ ea oa M∧(ea.nil=false→e.nil=false→ea.addr≠e.addr):=fun a oa ha=>by
  obtain⟨ea,h1,h2⟩:=h.has a oa ha;refine⟨ea,zlN _ h1,h1,h2,fun hea hen heq=>?_⟩;obtain⟨ob,h3⟩:=h2.some hea;rw[heq,hn hen] at h3;cases h3
 refine⟨fun a oa ha=>?_,fun a b oa ob ea eb ha hb hea heb hna hnb hab=>?_⟩
 ·rcases T.get_put ha with ⟨rfl,h1⟩|⟨-, h1⟩
  ·cases h1;exact⟨e,hlast,ho⟩
  ·obtain⟨ea,h2, -, h3,h4⟩:=old a oa h1;exact⟨ea,h2,(h3.mono [e]).frame fun hea=>hM _ fun hen=>h4 hea hen⟩
 ·rcases T.get_put ha with ⟨rfl,h1⟩|⟨-, h1⟩<;>rcases T.get_put hb with ⟨rfl,h2⟩|⟨-, h2⟩
  ·rfl
  ·obtain⟨eb',h3, -, -, h4⟩:=old b ob h2;rw[heb] at h3;cases h3;rw[hlast] at hea;cases hea;exact absurd hab.symm (h4 hnb hna)
  ·obtain⟨ea',h3, -, -, h4⟩:=old a oa h1;rw[hea] at h3;cases h3;rw[hlast] at heb;cases heb;exact absurd hab (h4 hna hnb)
  ·obtain⟨ea',h3,h5, -, -⟩:=old a oa h1;obtain⟨eb',h4,h6, -, -⟩:=old b ob h2;rw[hea] at h3;cases h3;rw[heb] at h4;cases h4;exact h.inj a b oa ob ea eb h1 h2 h5 h6 hna hnb hab
theorem del (h:HR σ H M) {a:Nat} {oa:O} {e:E} (ha:H.get a=Option.some oa) (he:σ[a]? = Option.some e) (hM:∀ x,(e.nil=false→x≠e.addr)→M' x=M x):HR σ (H.put a none) M':=by
 refine⟨fun b ob hb=>?_,fun b c ob oc eb ec hb hc=>?_⟩
 ·rcases T.get_put hb with ⟨-, h1⟩|⟨hne,h1⟩
  ·cases h1
  ·obtain⟨eb,h2,h3⟩:=h.has b ob h1;exact⟨eb,h2,h3.frame fun heb=>hM _ fun hen heq=>hne (h.inj b a ob oa eb e h1 ha h2 he heb hen heq)⟩
 ·rcases T.get_put hb with ⟨-, h1⟩|⟨-, h1⟩
  ·cases h1
  ·rcases T.get_put hc with ⟨-, h2⟩|⟨-, h2⟩
   ·cases h2
   ·exact h.inj b c ob oc eb ec h1 h2
theorem upd (h:HR σ H M) {a:Nat} {oa o:O} {e:E} (ha:H.get a=Option.some oa) (he:σ[a]? = Option.some e) (hM:∀ x,x≠e.addr→M' x=M x) (hn:e.nil=false) (ho:OR σ e o M'):HR σ (H.put a (Option.some o)) M':=by
 refine⟨fun b ob hb=>?_,fun b c ob oc eb ec hb hc=>?_⟩
 ·rcases T.get_put hb with ⟨rfl,h1⟩|⟨hne,h1⟩
  ·cases h1;exact⟨e,he,ho⟩
  ·obtain⟨eb,h2,h3⟩:=h.has b ob h1;exact⟨eb,h2,h3.frame fun heb=>hM _ fun heq=>hne (h.inj b a ob oa eb e h1 ha h2 he heb hn heq)⟩
 ·have old:∀ x ox,(H.put a (Option.some o)).get x=Option.some ox→∃ ox',H.get x=Option.some ox':=fun x ox hx=>by
   rcases T.get_put hx with ⟨rfl, -⟩|⟨-, h1⟩
   ·exact⟨oa,ha⟩
   ·exact⟨ox,h1⟩
  obtain⟨ob',hb'⟩:=old b ob hb;obtain⟨oc',hc'⟩:=old c oc hc;exact h.inj b c ob' oc' eb ec hb' hc'
end HR
theorem FR.same {s s':S} (h1:s'.nl=s.nl) (h2:s'.tl=s.tl) (h3:s'.L=s.L) {fr:List (Nat×SV)} (h:FR σ nb s fr):FR σ nb s' fr:=by
 obtain⟨a,b,c,d,e,f,g⟩:=s;obtain⟨a',b',c',d',e',f',g'⟩:=s';cases h1;cases h2;cases h3;exact h
structure Ext (σ:List E) (t:St) (σ':List E) (t':St):Prop where
 σ:∃ τ,σ'=σ++τ
 bx:t.bx.length≤t'.bx.length
theorem Ext.rfl' {σ:List E} {t:St}:Ext σ t σ t:=⟨⟨[],by simp⟩,Nat.le_refl _⟩
theorem Ext.trans {σ σ' σ'':List E} {t t' t'':St} (h:Ext σ t σ' t') (h':Ext σ' t' σ'' t''):Ext σ t σ'' t'':=by
 obtain⟨⟨τ,rfl⟩,h1⟩:=h;obtain⟨⟨τ',rfl⟩,h2⟩:=h';exact⟨⟨τ++τ',by simp⟩,Nat.le_trans h1 h2⟩
theorem VR.ext {σ':List E} {t':St} (x:Ext σ t σ' t') {v:V} {sv:SV} (h:VR σ t.bx.length v sv):VR σ' t'.bx.length v sv:=by obtain⟨τ,rfl⟩:=x.σ;exact h.mono τ x.bx
theorem WR.ext {σ':List E} {t':St} (x:Ext σ t σ' t') {w:W} {v:Value} (h:WR σ w v):WR σ' w v:=by obtain⟨τ,rfl⟩:=x.σ;exact h.mono τ
theorem CR.ext {σ':List E} {t':St} (x:Ext σ t σ' t') {w:C} {v:Value} (h:CR σ w v):CR σ' w v:=by obtain⟨τ,rfl⟩:=x.σ;exact h.mono τ
theorem SCR.ext {σ':List E} {t':St} (x:Ext σ t σ' t') {w:C} {v:SC} (h:SCR σ t.bx.length w v):SCR σ' t'.bx.length w v:=by obtain⟨τ,rfl⟩:=x.σ;exact h.mono τ x.bx
theorem zmd {σ':List E} {t':St} (x:Ext σ t σ' t') {a:Nat} {e:E} (h:σ[a]? = some e):σ'[a]? = some e:=by obtain⟨τ,rfl⟩:=x.σ;exact zlN τ h
theorem zme (s:S) (o:O) (K:Nat→S→R):s.new o K=K s.n ⟨s.nl,s.tl,s.L,s.bx,s.n+1,s.H.put s.n (some o),s.g⟩:=by
 obtain⟨nl,tl,L,bx,n,H,g⟩:=s;show H.set n (some o) (fun H'=>fN (fun n'=>K n ⟨nl,tl,L,bx,n',H',g⟩) (n+1))=_
 rw[T.set_put,fN_eq]
theorem zfv (s:S) (a:Nat) (o:Option O) (K:S→R):s.hset a o K=K ⟨s.nl,s.tl,s.L,s.bx,s.n,s.H.put a o,s.g⟩:=by
 obtain⟨nl,tl,L,bx,n,H,g⟩:=s;show H.set a o (fun H'=>K ⟨nl,tl,L,bx,n,H',g⟩)=_
 rw[T.set_put]
theorem zG2 {j:Nat} {b:B} {K:S→R} (h:s.bset j b K=some y):j<s.bx.length∧K ⟨s.nl,s.tl,s.L,s.bx.set j b,s.n,s.H,s.g⟩=some y:=by
 obtain⟨nl,tl,L,bx,n,H,g⟩:=s;exact zBs (l:=bx) (k:=j) (x:=b) (K:=fun bx'=>K ⟨nl,tl,L,bx',n,H,g⟩) h
theorem zy3 (s:S) (b:B) (K:Nat→S→R):s.badd b K=K s.bx.length ⟨s.nl,s.tl,s.L,s.bx++[b],s.n,s.H,s.g⟩:=by
 obtain⟨nl,tl,L,bx,n,H,g⟩:=s;show zc5 bx (fun j=>appK bx [b] fun bx'=>K j ⟨nl,tl,L,bx',n,H,g⟩)=_
 rw[zbA,zj5]
theorem SR.new (h:SR σ s t) {e:E} {o:O} {M':Mem} (hM:∀ x,(e.nil=false→x≠e.addr)→M' x=t.M x) (hn:e.nil=false→t.M e.addr=none) (ho:OR (σ++[e]) e o M') :
  SR (σ++[e]) ⟨s.nl,s.tl,s.L,s.bx,s.n+1,s.H.put s.n (some o),s.g⟩ ⟨t.fr,t.bx,M'⟩:=
 ⟨by simp[h.n],(h.fr.mono [e] (Nat.le_refl _)).same rfl rfl rfl,h.bx.imp fun _ _ hb=>hb.mono [e] (Nat.le_refl _),by
  have:=h.h.new hM hn ho;rw[←h.n] at this
  exact this⟩
theorem SR.heap (h:SR σ s t) {H':T O} {M':Mem} (hh:HR σ H' M'):SR σ ⟨s.nl,s.tl,s.L,s.bx,s.n,H',s.g⟩ ⟨t.fr,t.bx,M'⟩:=⟨h.n,h.fr.same rfl rfl rfl,h.bx,hh⟩
theorem SR.box (h:SR σ s t) {b:B} {x:BE} (hb:BR σ t.bx.length b x):SR σ ⟨s.nl,s.tl,s.L,s.bx++[b],s.n,s.H,s.g⟩ ⟨t.fr,t.bx++[x],t.M⟩:=by
 have hl:t.bx.length≤(t.bx++[x]).length:=by simp
 have e:σ++[]=σ:=by simp
 refine⟨h.n,?_,?_,h.h⟩
 ·have:=(h.fr.mono [] hl).same (s':=⟨s.nl,s.tl,s.L,s.bx++[b],s.n,s.H,s.g⟩) rfl rfl rfl;rw[e] at this;exact this
 ·refine All2.append (h.bx.imp fun _ _ hb=>?_) ⟨?_,trivial⟩
  ·have:=hb.mono [] hl;rw[e] at this;exact this
  ·have:=hb.mono [] hl;rw[e] at this;exact this
theorem zDg (hb:All2 (BR σ t.bx.length) s.bx t.bx):∀ {l:List C} {xs:List SC} {K:List C→R},flats s l K=some y→All2 (SCR σ t.bx.length) l xs→∃ l' vs,Vm.flats t.bx xs=some vs∧All2 (CR σ) l' vs∧K l'=some y
 | [],[],K,h,_=>⟨[],[],rfl,trivial,h⟩
 | c::l,x::xs,K,h,hl=>by
  have step:∃ c' v,Vm.flat t.bx x=some v∧CR σ c' v∧(flats s l fun r=>K (c'::r))=some y:=by
   have h':flat s c (fun c'=>flats s l fun r=>K (c'::r))=some y:=h;cases c with
   | b j o=>
    obtain⟨-, h1⟩:=hl.1;subst h1;rcases zxV (t:=t) h' hb with ⟨T,l1,cs, -, -, -, h2⟩|⟨a,e, -, he,h2,h3⟩
    ·cases h2
    ·refine⟨.p a o,.pointer (some ⟨e.addr,o,none⟩),by simp only[Vm.flat,h2],?_,h3⟩;simp[CR,C.val,he]
   | _=>
    obtain⟨v,h1,h2⟩:=hl.1;subst h2;exact⟨_,v,rfl,h1,h'⟩
  obtain⟨c',v,h1,h2,h3⟩:=step;obtain⟨l',vs,h4,h5,h6⟩:=zDg hb h3 hl.2;exact⟨c'::l',v::vs,by simp only[Vm.flats,h1,h4],⟨h2,h5⟩,h6⟩
 | [],_::_,_,_,h=>h.elim
 | _::_,[],_,_,h=>h.elim
theorem zEw {j:Nat} {K:Nat→S→R} (h:pub j s K=some y) (hr:SR σ s t) {k:Nat→St→Prop} (hk:∀ σ' a e s' t',Ext σ t σ' t'→SR σ' s' t'→σ'[a]? = some e→K a s'=some y→k e.addr t'):Vm.pub j t k:=by
 show zHB j t (zfy t.bx j) k;rcases zxV (t:=t) h hr.bx with ⟨T,l,cs,h1,h2,h3,h4⟩|⟨a,e,h1,h2,h3,h4⟩
 ·obtain⟨l',vs,h5,h6,h7⟩:=zDg hr.bx h4 h3;rw[zme] at h7;obtain⟨h8,h9⟩:=zG2 h7;rw[h2];show onO (Vm.flats t.bx cs) _
  rw[h5];intro b hb;obtain⟨fr,bx,M⟩:=t;dsimp only at hb ⊢;rw[z8,z8];have hr1:=hr.new (e:=⟨b,0,false,[]⟩) (o := .row T l') (M':=M.setCells b T vs) (fun x hx=>by simp[Mem.setCells,Mem.upd,hx rfl]) (fun _=>hb) ⟨rfl,vs,h6.imp fun _ _ hc=>hc.mono _,by simp[Mem.setCells,Mem.upd]⟩
  have hlast:(σ++[(⟨b,0,false,[]⟩:E)])[s.n]? = some ⟨b,0,false,[]⟩:=by rw[hr.n];simp
  refine hk (σ++[⟨b,0,false,[]⟩]) s.n ⟨b,0,false,[]⟩ _ ⟨fr,bx.set j (.gone b),M.setCells b T vs⟩ ⟨⟨_,rfl⟩,by simp⟩ ⟨hr1.n,?_,?_,hr1.h⟩ hlast h9
  ·have:=hr1.fr;simp only[List.length_set];exact this.same rfl rfl rfl
  ·simp only[List.length_set];exact hr1.bx.set ⟨_,hlast,rfl⟩
 ·rw[h3];exact hk σ a e s t Ext.rfl' hr h2 h4
theorem zDh {c:C} {x:SC} {K:C→S→R} (h:shalC c s K=some y) (hr:SR σ s t) (hc:SCR σ t.bx.length c x) {k:Value→St→Prop} (hk:∀ σ' c' v s' t',Ext σ t σ' t'→SR σ' s' t'→CR σ' c' v→K c' s'=some y→k v t'):Vm.shalC x t k:=by
 cases c with
 | b j o=>
  obtain⟨-, rfl⟩:=hc;exact zEw h hr fun σ' a e s' t' hx hr' he h1=>hk σ' (.p a o) _ s' t' hx hr' (by simp[CR,C.val,he]) h1
 | _=>
  obtain⟨v,h1,rfl⟩:=hc;exact hk σ _ v s t Ext.rfl' hr h1 h
theorem zlR:∀ {l:List C} {xs:List SC} {σ:List E} {s:S} {t:St} {K:List C→S→R},shalCs l s K=some y→SR σ s t→All2 (SCR σ t.bx.length) l xs→∀ {k:List Value→St→Prop},
  (∀ σ' l' vs s' t',Ext σ t σ' t'→SR σ' s' t'→All2 (CR σ') l' vs→l'.length=l.length→K l' s'=some y→k vs t')→Vm.shalCs xs t k
 | [],[],σ,s,t,K,h,hr,_,k,hk=>hk σ [] [] s t Ext.rfl' hr trivial rfl h
 | c::l,x::xs,σ,s,t,K,h,hr,hl,k,hk=>by
  refine zDh (K:=fun c' s'=>shalCs l s' fun r s''=>K (c'::r) s'') h hr hl.1 fun σ' c' v s' t' hx hr' hc h1=>?_
  exact zlR h1 hr' (hl.2.imp fun _ _ h=>h.ext hx) fun σ'' l' vs s'' t'' hx' hr'' hl' hlen h2=>hk σ'' (c'::l') (v::vs) s'' t'' (hx.trans hx') hr'' ⟨hc.ext hx',hl'⟩ (by simp[hlen]) h2
 | [],_::_,_,_,_,_,_,_,h,_,_=>h.elim
 | _::_,[],_,_,_,_,_,_,h,_,_=>h.elim
theorem zmf {v:V} {sv:SV} {K:W→S→R} (h:shal v s K=some y) (hr:SR σ s t) (hv:VR σ t.bx.length v sv) {k:Value→St→Prop} (hk:∀ σ' w u s' t',Ext σ t σ' t'→SR σ' s' t'→WR σ' w u→K w s'=some y→k u t'):Vm.shal sv t k:=by
 cases v with
 | c x=>
  rcases hv with ⟨sc,h1,rfl⟩|⟨b,rfl,rfl⟩
  ·exact zDh (K:=fun x' s'=>K (.c x') s') h hr h1 fun σ' c' v s' t' hx hr' hc h2=>hk σ' (.c c') v s' t' hx hr' hc h2
  ·exact hk σ (.c (.t b)) _ s t Ext.rfl' hr rfl h
 | ag l=>
  obtain⟨cs,h1,rfl⟩:=hv;exact zlR (K:=fun l' s'=>K (.ag l') s') h hr h1 fun σ' l' vs s' t' hx hr' hl _ h2=>hk σ' (.ag l') _ s' t' hx hr' ⟨vs,hl,rfl⟩ h2
 | fn g l=>
  rcases hv with ⟨cs,h1,rfl⟩|⟨vs,h1,rfl⟩
  ·exact zlR (K:=fun l' s'=>K (.fn g l') s') h hr h1 fun σ' l' vs s' t' hx hr' hl _ h2=>hk σ' (.fn g l') _ s' t' hx hr' ⟨vs,hl,rfl⟩ h2
  ·
   have hid:∀ {l:List C} {vs:List Value} {K:List C→S→R},All2 (CR σ) l vs→shalCs l s K=some y→K l s=some y:=by
    intro l
    induction l with
    | nil=>intro vs K _ h;exact h
    | cons c l ih=>
     intro vs K hl h
     match vs,hl with
     | v::vs,hl=>
      have h':shalC c s (fun c' s'=>shalCs l s' fun r s''=>K (c'::r) s'')=some y:=h
      have h'':(shalCs l s fun r s''=>K (c::r) s'')=some y:=by
       cases c with
       | b j o=>exact absurd hl.1 (by simp[CR,C.val])
       | _=>exact h'
      exact ih hl.2 h''
   exact hk σ (.fn g l) _ s t Ext.rfl' hr ⟨vs,h1,rfl⟩ (hid (K:=fun l' s'=>K (.fn g l') s') h1 h)
 | sl j n=>
  obtain⟨-, rfl⟩:=hv;exact zEw (K:=fun a s'=>K (.c (.l a 0 n n)) s') h hr fun σ' a e s' t' hx hr' he h1=>hk σ' (.c (.l a 0 n n)) _ s' t' hx hr' (by simp[WR,CR,C.val,he]) h1
 | _=>cases h
theorem zDi:∀ {l:List Operand} {σ:List E} {s:S} {t:St} {K:List W→S→R},shals l s K=some y→SR σ s t→∀ {k:List Value→St→Prop},
  (∀ σ' ws vs s' t',Ext σ t σ' t'→SR σ' s' t'→All2 (WR σ') ws vs→K ws s'=some y→k vs t')→Vm.shals l t k
 | [],σ,s,t,K,h,hr,k,hk=>hk σ [] [] s t Ext.rfl' hr trivial h
 | x::l,σ,s,t,K,h,hr,k,hk=>by
  refine zW (K:=fun v=>shal v s fun w s'=>shals l s' fun r s''=>K (w::r) s'') h hr.fr fun v sv _ hv h1=>?_
  refine zmf h1 hr hv fun σ' w u s' t' hx hr' hw h2=>?_
  exact zDi h2 hr' fun σ'' ws vs s'' t'' hx' hr'' hws h3=>hk σ'' (w::ws) (u::vs) s'' t'' (hx.trans hx') hr'' ⟨hw.ext hx',hws⟩ h3
end
end Go.Vm.Rn
namespace Go.Vm.Rn
open Go.Vm
set_option linter.unusedVariables false
section
def FOk (P:Program) (F:Cal):Prop:=∀ {g:Nat} {ws:List W} {n:Nat} {H:T O} {y:Out},F g ws n H=some y→∀ {v:V} {n':Nat} {H':T O},y = .rt v n' H' →
 ∀ {σ:List E} {M:Mem} {vs:List Value},σ.length=n→HR σ H M→All2 (WR σ) ws vs→CallsM P g vs M fun u M'=>∃ τ,(σ++τ).length=n'∧OVR (σ++τ) v u∧HR (σ++τ) H' M'
def LS (P:Program) (o:ROp) (l:S→(V→S→R)→R):Prop:=∀ {σ:List E} {s:S} {t:St} {y:Out} {K:V→S→R} {k:SV→St→Prop},SR σ s t→l s K=some y →
 (∀ σ' v sv s' t',Ext σ t σ' t'→SR σ' s' t'→VR σ' t'.bx.length v sv→K v s'=some y→k sv t')→vl P o t k
section
variable {P:Program} {σ:List E} {s:S} {t:St} {y:Out} {nb:Nat}
theorem zN6 (T:TypeId) (x:Operand):LS P (.box T x) (zMH T x):=fun {σ s t y K k} hr h hk=>by
 refine zW h hr.fr fun v sv _ hv h1=>?_
 obtain⟨l,cs,h2,h3,h4⟩:=ztb h1 hv;rw[h2];show zan cs _
 rw[z8,znp];rw[zy3] at h4;have hl:s.bx.length=t.bx.length:=hr.bx.len
 refine hk σ (.c (.b s.bx.length 0)) _ _ _ ⟨⟨[],by simp⟩,by simp⟩ (hr.box (b := .live T l) ⟨cs,h3,rfl⟩) ?_ h4;exact .inl ⟨.bx t.bx.length 0,⟨by rw[hl];simp,by rw[hl]⟩,rfl⟩
theorem zLq (T:TypeId) (z:List Value):LS P (.alloc T z) (zGv T z):=fun {σ s t y K k} hr h hk=>by
 obtain⟨l,h1,h4⟩:=zn3 σ h;show zan (z.map SC.v) _
 rw[z8,znp];rw[zy3] at h4;have hl:s.bx.length=t.bx.length:=hr.bx.len
 refine hk σ (.c (.b s.bx.length 0)) _ _ _ ⟨⟨[],by simp⟩,by simp⟩ (hr.box (b := .live T l) ⟨_,h1.sc _,rfl⟩) ?_ h4;exact .inl ⟨.bx t.bx.length 0,⟨by rw[hl];simp,by rw[hl]⟩,rfl⟩
theorem zMU (tmp:Bool) (T n:Nat) (z:List Value) (parts:List (Nat×Nat×Operand)):LS P (.mkSl tmp T n z parts) (zKa tmp T n z parts):=fun {σ s t y K k} hr h hk=>by
 obtain⟨l,h1,h2⟩:=zn3 σ h;show zan (z.map SC.v) _
 rw[z8];refine zy1 hr.fr (fun l cs hl h3=>?_) h2 (h1.sc _);rw[zy3] at h3;rw[znp];have hlen:s.bx.length=t.bx.length:=hr.bx.len
 have hr':=hr.box (b := .live T l) ⟨cs,hl,rfl⟩;cases tmp with
 | true=>
  have h4:K (.sl s.bx.length n) _=some y:=h3;show k (.sl t.bx.length n) _
  exact hk σ (.sl s.bx.length n) _ _ _ ⟨⟨[],by simp⟩,by simp⟩ hr' ⟨by rw[hlen];simp,by rw[hlen]⟩ h4
 | false=>
  have h4:pub s.bx.length _ (fun a s''=>K (.c (.l a 0 n n)) s'')=some y:=h3;rw[hlen] at h4;refine zEw h4 hr' fun σ' a e s' t' hx hr'' he h5=>?_
  exact hk σ' (.c (.l a 0 n n)) _ s' t' (Ext.trans ⟨⟨[],by simp⟩,by simp⟩ hx) hr'' (zaS (by simp[C.val,he])) h5
theorem zH5 {ob:O} {o:Nat} {vs:List C} {K:O→R} (h:ob.wr o vs K=some y) {e:E} {M:Mem} (ho:OR σ e ob M) (hvs:vs≠[]∨e.nil=false) {ws:List Value} (hw:All2 (CR σ) vs ws) :
  ∃ ob' T cs,e.nil=false∧M.cells e.addr=some (T,cs)∧o+ws.length≤cs.length∧OR σ e ob' (M.setCells e.addr T (splice cs o ws))∧K ob'=some y:=by
 cases ob with
 | row T l=>
  obtain⟨h0,us,h1,h2⟩:=ho;obtain⟨h3,h4⟩:=zs9 h;refine⟨.row T (splice l o vs),T,us,h0,by simp[Mem.cells,h2],by rw[←hw.len,←h1.len];exact h3,⟨h0,_,h1.splice hw o,by simp[Mem.setCells,Mem.upd]⟩,h4⟩
 | gr T z l=>
  obtain⟨us,h1,h2⟩:=ho;obtain⟨h3,h4⟩:=zs9 h;rcases h2 with ⟨hn,rfl, -⟩|⟨h0,h2,h5⟩
  ·exfalso;rcases hvs with hvs|hvs
   ·apply hvs;cases vs
    ·rfl
    ·simp at h3
   ·rw[hn] at hvs;cases hvs
  ·have hlen:=h1.len;have hwl:=hw.len
   have hsp:splice (us++e.sp) o ws=splice us o ws++e.sp:=by
    unfold splice;rw[List.take_append_of_le_length (by omega),List.drop_append_of_le_length (by omega)];simp
   refine⟨.gr T z (splice l o vs),T,us++e.sp,h0,by simp[Mem.cells,h2],by rw[List.length_append];omega,⟨_,h1.splice hw o,.inr ⟨h0,?_,?_⟩⟩,h4⟩
   ·rw[←hsp];simp[Mem.setCells,Mem.upd]
   ·rw[←hsp,zml _ _ _ (by rw[List.length_append];omega)];exact h5
 | _=>cases h
theorem zy4 {M:Mem} {b:Nat} {T:TypeId} {l:List Value}:∀ x,x≠b→M.setCells b T l x=M x:=fun x hx=>by simp[Mem.setCells,Mem.upd,hx]
theorem zH6 {l:List C} {cs:List SC} (h:All2 (SCR σ nb) l cs):cs.all zw3=true:=by
 induction l generalizing cs with
 | nil=>cases cs with
  | nil=>rfl
  | cons _ _=>exact h.elim
 | cons c l ih=>cases cs with
  | nil=>exact h.elim
  | cons x cs=>
   rw[List.all_cons,ih h.2,Bool.and_true];cases c with
   | b j o=>obtain⟨-, rfl⟩:=h.1;rfl
   | _=>obtain⟨v,h1,rfl⟩:=h.1;exact CR.one h1
theorem zLr (n:Nat) (p x:Operand):LS P (.store n p x) (zGw n p x):=fun {σ s t y K k} hr h hk=>by
 refine zW h hr.fr fun v sv _ hv h1=>?_
 obtain⟨l,cs,h2,h3,h4⟩:=ztb h1 hv;rw[h2];rw[zbA] at h4;obtain⟨h5,h6⟩:=zr h4;have hn:=Nat.eq_of_beq_eq_true h5
 show oneC (cs.all zw3) _;rw[zH6 h3];refine ztO h6 hr.fr hr.bx (fun j o T l' cs' hj hj' hl h7=>?_) (fun a o e he h7=>?_)
 ·obtain⟨h8,h9⟩:=zs9 h7;rw[zC4 (by rw[←h3.len];exact hn) (by rw[←hl.len,←hn];exact h8)];show zan _ _
  rw[z8,hj'];show t.setK j (.live T _) _
  rw[zCU];rcases zxV h9 hr.bx with ⟨T',l2,cs2,h10,h11, -, h12⟩|⟨a,e,h10, -, -, h12⟩
  ·rw[hj] at h10;cases h10;obtain⟨h13,h14⟩:=zG2 h12
   have hS:SR σ ⟨s.nl,s.tl,s.L,s.bx.set j (.live T (splice l' o l)),s.n,s.H,s.g⟩ { t with bx:=t.bx.set j (.live T (splice cs' o cs)) }:=by
    refine⟨hr.n,?_,?_,hr.h⟩
    ·simp only[List.length_set];exact hr.fr.same rfl rfl rfl
    ·simp only[List.length_set];exact hr.bx.set (b := .live T (splice cs' o cs)) (a := .live T (splice l' o l)) ⟨_,hl.splice h3 o,rfl⟩
   exact hk σ .dead .dead _ _ ⟨⟨[],by simp⟩,by simp⟩ hS rfl h14
  ·cases h12
 ·obtain⟨h7',h7⟩:=zr h7;refine zj6 (by rw[←h3.len];exact hn) (zlR h7 hr h3 fun σ' l' vs s' t' hx hr' hl' hlen h8=>?_);obtain⟨ob,h9,h10,h11⟩:=zcl h8;obtain⟨e',he',ho⟩:=hr'.h.has a ob h10;rw[zmd hx he] at he';cases he'
  have hvs:l'≠[]:=fun h=>by
   have:0<n:=by simpa[Nat.blt_eq] using h7'
   rw[h] at hlen;simp at hlen;omega
  obtain⟨ob',T,cs',h0,h12,h13,h14,h15⟩:=zH5 h11 ho (.inl hvs) hl';rw[zfv] at h15;obtain⟨fr,bx,M⟩:=t';show onO (M.cells e.addr) _
  rw[h12]
  refine⟨by have:vs.length=n:=by rw[←hl'.len,hlen];exact hn
            rw[this] at h13;exact h13,?_⟩
  exact hk σ' .dead .dead _ _ (Ext.trans hx ⟨⟨[],by simp⟩,Nat.le_refl _⟩) (hr'.heap (hr'.h.upd h10 (zmd hx he) zy4 h0 h14)) rfl h15
theorem zH7 {b:List Nat} {K:List C→R} (h:(List.rec (motive:=fun _=>(List C→R)→R) (fun K=>K []) (fun x _ ih K=>cB (Nat.blt x 256) (ih fun r=>K (.n .u8 (.ofNat x)::r)) fail) b K:R)=some y) :
  (∀ x∈b,x<256)∧K (b.map fun x:Nat=>C.n .u8 (.ofNat x))=some y:=by
 induction b generalizing K with
 | nil=>exact⟨by simp,h⟩
 | cons x r ih=>
  obtain⟨h1,h2⟩:=zr (b:=Nat.blt x 256) h;obtain⟨h3,h4⟩:=ih h2;refine⟨?_,h4⟩;intro z hz;rcases List.mem_cons.1 hz with rfl|hz
  ·simpa[Nat.blt_eq] using h1
  ·exact h3 z hz
theorem zCE {b:List Nat} (hb:∀ x∈b,x<256):All2 (CR σ) (b.map fun x:Nat=>C.n .u8 (.ofNat x)) (byteCells (zab b)):=by
 unfold byteCells zab;simp only
 induction b with
 | nil=>trivial
 | cons x r ih=>
  refine⟨?_,ih fun z hz=>hb z (List.mem_cons_of_mem _ hz)⟩;have:(UInt8.ofNat x).toNat=x:=by simp[Nat.mod_eq_of_lt (hb x (by simp))]
  simp[CR,C.val,this]
theorem zKt {size:Nat} {v:V} {sv:SV} {K:Nat→List C→S→R} (h:src size v s K=some y) (hr:SR σ s t) (hv:VR σ t.bx.length v sv) {k:Nat→List Value→St→Prop}
  (hk:∀ σ' n l vs s' t',Ext σ t σ' t'→SR σ' s' t'→All2 (CR σ') l vs→vs.length=n*size→K n l s'=some y→k n vs t'):zr0 size sv t k:=by
 have heap:∀ {a o n:Nat} {q:Option Addr} {c:Nat} {e:E},sv = .slice q n c→σ[a]? = some e→(q=some ⟨e.addr,o,none⟩∨n=0)→(row s a o (n*size) fun l=>K n l s)=some y→zr0 size sv t k:=fun {a o n q c e} hsv he hq h1=>by
  obtain⟨l,vs,e',h4,h5,h6,h7,h8⟩:=zxX h1 hr.q;rw[he] at h4;cases h4;subst hsv;obtain⟨fr,bx,M⟩:=t;have hl:vs.length=n*size:=by rw[←h6.len];exact h5
  refine⟨vs,⟨hl,?_⟩,hk σ n l vs s _ Ext.rfl' hr h6 hl h7⟩;rcases h8 with h8|h8
  ·left;rw[h8] at hl;exact List.length_eq_zero_iff.1 hl
  ·rcases hq with rfl|rfl
   ·exact .inr ⟨_,_,rfl,h8⟩
   ·left;rw[Nat.zero_mul] at hl;exact List.length_eq_zero_iff.1 hl
 have nil0:∀ {q:Option Addr} {c:Nat},sv = .slice q 0 c→K 0 [] s=some y→zr0 size sv t k:=fun {q c} hsv h1=>by
  subst hsv;obtain⟨fr,bx,M⟩:=t;exact⟨[],⟨by simp,.inl rfl⟩,hk σ 0 [] [] s _ Ext.rfl' hr trivial (by simp) h1⟩
 unfold src at h;split at h
 ·rename_i j n;obtain⟨-, rfl⟩:=hv;show zHC size n (zfy t.bx j) t k
  rcases zxV h hr.bx with ⟨T,l,cs,h1,h2,h3,h4⟩|⟨a,e, -, -, -, h4⟩
  ·rw[h2];rw[zbA] at h4;obtain⟨h5,h6⟩:=zr h4;have h7:=Nat.eq_of_beq_eq_true h5
   refine zj6 (by rw[←h3.len];exact h7) (zlR h6 hr h3 fun σ' l' vs s' t' hx hr' hl' hlen h8=>?_);exact hk σ' n l' vs s' t' hx hr' hl' (by rw[←hl'.len,hlen];exact h7) h8
  ·cases h4
 ·exact nil0 (hv.val rfl (by simp)) h
 ·obtain⟨sc,h5,rfl⟩:=hv.cc (by simp);obtain⟨w,h5,rfl⟩:=h5;simp only[C.val,Option.bind_eq_some_iff] at h5;obtain⟨e,h6,h7⟩:=h5;split at h7
  ·cases h7;exact nil0 rfl h
  ·cases h7
 ·obtain⟨sc,h5,rfl⟩:=hv.cc (by simp);obtain⟨w,h5,rfl⟩:=h5;simp only[C.val,Option.map_eq_some_iff] at h5;obtain⟨e,h6,rfl⟩:=h5;exact heap rfl h6 (.inl rfl) h
 ·obtain⟨sc,h5,rfl⟩:=hv.cc (by simp);obtain⟨w,h5,rfl⟩:=h5;simp only[C.val,Option.bind_eq_some_iff] at h5;obtain⟨e,h6,h7⟩:=h5;split at h7<;>split at h7
  ·rename_i hc;cases h7;obtain⟨rfl, -, -⟩:=hc;exact heap rfl h6 (.inr rfl) h
  ·cases h7
  ·cases h7;exact heap rfl h6 (.inl rfl) h
  ·cases h7
 ·obtain⟨h1,h2⟩:=zr h;rw[zbA] at h2;obtain⟨h3,h4⟩:=zH7 h2;rw[hv.val rfl (by simp)];have hsz:size=1:=Nat.eq_of_beq_eq_true h1
  subst hsz;rename_i b;have hs:(zab b).size=b.length:=by simp[zab,ByteArray.size]
  dsimp only [zr0];refine zj6 rfl ?_;rw[hs];exact hk σ b.length _ _ s t Ext.rfl' hr (zCE h3) (by rw[byteCells_length,hs];simp) h4
 ·cases h
end
end
section
section
variable {P:Program} {σ:List E} {s:S} {t:St} {y:Out} {nb:Nat}
theorem zH8 {c:C} {K:Nat→R} (h:zov (.c c) K=some y) {u:Value} (hu:CR σ c u):∃ a n k,u = .slice a n k∧K n=some y:=by
 obtain⟨a,n,k,h1,h2⟩:=ztS (nb:=0) h (zta hu);refine⟨a,n,k,?_,h2⟩;cases u<;>simp only[zdL,SV.slice,SV.c.injEq,SC.v.injEq,reduceCtorEq] at h1<;>first|exact h1|cases h1
theorem zLs {c:C} {K:Nat→Nat→Nat→R} (h:zwk (.c c) K=some y) {u:Value} (hu:CR σ c u):∃ a o n x k,u = .slice x n k∧K a o n=some y∧∃ e,σ[a]? = some e∧(x=some ⟨e.addr,o,none⟩∨(n=0∧x=none)):=by
 obtain⟨a,o,n,x,k,h1,h2,h3⟩:=zBu (nb:=0) h (zta hu);refine⟨a,o,n,x,k,?_,h2,h3⟩;cases u<;>simp only[zdL,SV.slice,SV.c.injEq,SC.v.injEq,reduceCtorEq] at h1<;>first|exact h1|cases h1
theorem zj7 {l:List C} {vs:List Value} (h:All2 (CR σ) l vs):∀ u∈vs,u.oneCell'=true:=by
 induction l generalizing vs with
 | nil=>cases vs with
  | nil=>simp
  | cons _ _=>exact h.elim
 | cons c l ih=>cases vs with
  | nil=>exact h.elim
  | cons v vs=>
   intro u hu;rcases List.mem_cons.1 hu with rfl|hu
   ·exact h.1.one
   ·exact ih h.2 u hu
theorem own_new {H:T O} {M0:Mem} (hh:HR σ H M0) {T z n:Nat} {l:List C} {L:List Value} (hl:All2 (CR σ) l L) {a':Option Addr} {c':Nat} {M':Mem} (ho:Own M0 T z a' n c' L M') :
  ∃ e:E,HR (σ++[e]) (H.put σ.length (some (.gr T z l))) M'∧(C.g σ.length 0 0 n).val (σ++[e])=some (.slice a' n c'):=by
 obtain⟨h1,h2,⟨ha,hc,hM⟩|⟨b,cs,ha,hb,hM,hcl,hct⟩⟩:=ho
 ·have hn:n=0:=by omega
  subst hn ha hc hM;have hL:L=[]:=List.length_eq_zero_iff.1 (by rw[h1,Nat.zero_mul])
  have hll:l=[]:=List.length_eq_zero_iff.1 (by rw[hl.len,hL];rfl);refine⟨⟨0,0,true,[]⟩,hh.new (fun _ _=>rfl) (fun h=>by cases h) ⟨L,hl.imp fun _ _ h=>h.mono _,.inl ⟨rfl,hll,rfl⟩⟩,?_⟩;simp[C.val]
 ·subst ha hM;have hsp:cs=L++cs.drop (n*z):=by rw[←hct];simp
  refine⟨⟨b,c',false,cs.drop (n*z)⟩,hh.new (fun x hx=>by simp[Mem.setCells,Mem.upd,hx rfl]) (fun _=>hb) ⟨L,hl.imp fun _ _ h=>h.mono _,.inr ⟨rfl,?_,?_⟩⟩,?_⟩
  ·rw[←hsp];simp[Mem.setCells,Mem.upd]
  ·rw[←hsp];exact hcl
  ·simp[C.val,h2]
theorem SR.grown {fr:List (Nat×SV)} {bx:List BE} {M:Mem} (h:SR σ s ⟨fr,bx,M⟩) {e:E} {H':T O} {M':Mem} (hh:HR (σ++[e]) H' M'):SR (σ++[e]) ⟨s.nl,s.tl,s.L,s.bx,s.n+1,H',s.g⟩ ⟨fr,bx,M'⟩:=
 ⟨by simp[h.n],(h.fr.mono [e] (Nat.le_refl _)).same rfl rfl rfl,h.bx.imp fun _ _ hb=>hb.mono [e] (Nat.le_refl _),hh⟩
theorem grow_s {T size bytes n m:Nat} {L vs:List C} {K:V→S→R} (h:grow T size bytes n L m vs s K=some y) :
  (n+m)*bytes≤140737488355328∧n+m≤maxLen∧K (.c (.g s.n 0 0 (n+m))) ⟨s.nl,s.tl,s.L,s.bx,s.n+1,s.H.put s.n (some (.gr T size (L++vs))),s.g⟩=some y:=by
 obtain⟨h1,h2⟩:=zr h;obtain⟨h3,h4⟩:=zr h2;rw[zj5,fN_eq,zme] at h4;exact⟨Nat.le_of_ble_eq_true h1,Nat.le_of_ble_eq_true h3,h4⟩
theorem zN7 (T size bytes:Nat) (z:List Value) (x y:Operand):LS P (.app T size bytes z x y) (zMI T size bytes z x y):=fun {σ s t w K k} hr h hk=>by
 refine zW h hr.fr fun v sv _ hv h1=>?_
 refine zmf h1 hr hv fun σ1 uw u s1 t1 hx1 hr1 huw h2=>?_
 cases uw with
 | c c=>
  replace h2:(zov (.c c) fun _=>ev s1 y fun v=>zMG T size bytes c s1 v K)=some w:=h2;obtain⟨a,n,cp,rfl,h3⟩:=zH8 h2 huw;show Vm.ev t1 y _
  refine zW h3 hr1.fr fun v sv _ hv1 h4=>?_
  refine zKt h4 hr1 hv1 fun σ2 m lv vs s2 t2 hx2 hr2 hlv hlen h5=>?_
  have hcc:CR σ2 c (.slice a n cp):=CR.ext hx2 huw;have hx:=hx1.trans hx2
  clear h4 h3 h2 h1;obtain⟨fr,bx,M⟩:=t2
  have fin:∀ {H0:Rn.T O} {M0:Mem} {Lc:List C} {Lv:List Value},HR σ2 H0 M0→All2 (CR σ2) Lc Lv →
    K (.c (.g s2.n 0 0 (n+m))) ⟨s2.nl,s2.tl,s2.L,s2.bx,s2.n+1,H0.put s2.n (some (.gr T size (Lc++lv))),s2.g⟩=some w →
    ∀ a' c' M',Own M0 T size a' (n+m) c' (Lv++vs) M'→k (.slice a' (n+m) c') ⟨fr,bx,M'⟩:=fun {H0 M0 Lc Lv} hh hl hK a' c' M' ho=>by
   obtain⟨e,h6,h7⟩:=own_new hh (hl.append hlv) ho;rw[←hr2.n] at h6 h7;exact hk (σ2++[e]) (.c (.g s2.n 0 0 (n+m))) _ _ _ (hx.trans ⟨⟨_,rfl⟩,Nat.le_refl _⟩) (hr2.grown h6) (zaS h7) hK
  show zaU T size bytes a n cp m vs M _;cases c with
  | nl=>
   have hu:some (Value.slice none 0 0)=some (Value.slice a n cp):=hcc;cases hu;obtain⟨h6,h7,h8⟩:=grow_s (s:=s2) h5;refine⟨h6,h7,zj7 hlv,.inl ⟨M,[],⟨by simp,Nat.le_refl _,.inl ⟨rfl,rfl,rfl⟩⟩,fun a' c' M' _ ho=>fin hr2.h (Lc:=[]) (Lv:=[]) trivial h8 a' c' M' ho⟩⟩
  | h ab o d q zz w0=>
   cases w0 with
   | false=>cases h5
   | true=>
    obtain⟨h9,h10⟩:=zr (b:=Nat.blt 0 m) h5;have hm:0<m:=by simpa[Nat.blt_eq] using h9
    have hu:=hcc;simp only[CR,C.val,Option.bind_eq_some_iff] at hu;obtain⟨e,he,hu⟩:=hu;split at hu
    ·cases hu;obtain⟨h6,h7,h8⟩:=grow_s (s:=s2) h10;refine⟨h6,h7,zj7 hlv,.inr <| .inl ⟨by rw[if_pos trivial];omega,Nat.zero_le _,[],⟨by simp,.inl rfl⟩,fun a' c' M' _ ho=>fin hr2.h (Lc:=[]) (Lv:=[]) trivial h8 a' c' M' ho⟩⟩
    ·cases hu
  | l ab o n' c'=>
   have hu:=hcc;simp only[CR,C.val,Option.map_eq_some_iff] at hu;obtain⟨e,he,hu⟩:=hu;cases hu
   have h6:(Bool.rec (Bool.rec (cB (Nat.beq o 0) (s2.hget ab fun x=>match x with
     | .row E' l=>zc5 l fun k=>cB (Nat.beq E' T) (cB (Nat.beq k (cp*size)) (cB (Nat.ble n cp) (zng (n*size) l fun l'=>s2.hset ab none fun s'=>grow T size bytes n l' m lv s' K) fail) fail) fail
     | _=>fail) fail) (cB (Nat.ble ((n+m)*bytes) 140737488355328) (cB (Nat.ble (n+m) maxLen) (cB (Nat.ble n cp) (K (.c (.l ab o n cp)) s2) fail) fail) fail) (Nat.beq m 0)) (cB (Nat.ble n cp) (row s2 ab o (n*size) fun l=>grow T size bytes n l m lv s2 K) fail) (Nat.blt cp (n+m)):R)=some w:=h5
   cases hb:Nat.blt cp (n+m) with
   | true=>
    rw[hb] at h6;obtain⟨h7,h8⟩:=zr (b:=Nat.ble n cp) h6;obtain⟨l,ls,e',h9,h10,h11,h12,h13⟩:=zxX h8 hr2.q;rw[he] at h9;cases h9;obtain⟨h14,h15,h16⟩:=grow_s h12;have hlt:cp<n+m:=by simpa[Nat.blt_eq] using hb
    refine⟨h14,h15,zj7 hlv,.inr <| .inl ⟨hlt,Nat.le_of_ble_eq_true h7,ls,⟨by rw[←h11.len];exact h10,?_⟩,fun a' c' M' _ ho=>fin hr2.h h11 h16 a' c' M' ho⟩⟩;rcases h13 with h13|h13
    ·left;rw[h13] at h10;exact List.length_eq_zero_iff.1 (by rw[←h11.len,h10])
    ·exact .inr ⟨_,_,rfl,h13⟩
   | false=>
    rw[hb] at h6;cases hm0:Nat.beq m 0 with
    | true=>
     rw[hm0] at h6;obtain⟨h7,h8⟩:=zr (b:=Nat.ble ((n+m)*bytes) 140737488355328) h6;obtain⟨h9,h10⟩:=zr h8;obtain⟨h11,h12⟩:=zr h10;have hm:=Nat.eq_of_beq_eq_true hm0
     subst hm;exact⟨Nat.le_of_ble_eq_true h7,Nat.le_of_ble_eq_true h9,zj7 hlv,.inr <| .inr ⟨rfl,Nat.le_of_ble_eq_true h11,hk σ2 (.c (.l ab o n cp)) _ _ _ hx hr2 (zaS hcc) h12⟩⟩
    | false=>
     rw[hm0] at h6;obtain⟨h7,h8⟩:=zr (b:=Nat.beq o 0) h6;have ho0:=Nat.eq_of_beq_eq_true h7
     subst ho0;obtain⟨ob, -, h9,h10⟩:=zcl h8;obtain⟨e',he',hob⟩:=hr2.h.has ab ob h9;rw[he] at he';cases he';cases ob with
     | row T' l=>
      replace h10:(zc5 l fun k=>cB (Nat.beq T' T) (cB (Nat.beq k (cp*size)) (cB (Nat.ble n cp) (zng (n*size) l fun l'=>s2.hset ab none fun s'=>grow T size bytes n l' m lv s' K) fail) fail) fail)=some w:=h10;rw[zbA] at h10;obtain⟨h11,h12⟩:=zr h10;obtain⟨h13,h14⟩:=zr h12;obtain⟨h15,h16⟩:=zr h14;obtain⟨h17,h18⟩:=zpC h16;rw[zfv] at h18;have hT:=Nat.eq_of_beq_eq_true h11
      subst hT;have hlen2:=Nat.eq_of_beq_eq_true h13
      have hncp:=Nat.le_of_ble_eq_true h15;obtain⟨h0,us,h19,h20⟩:=hob;have hul:=h19.len
      obtain⟨h21,h22,h23⟩:=grow_s h18
      let M0:Mem:=fun x=>if x=e.addr then none else M x
      have hM:M=M0.setCells e.addr T' us:=by
       funext x;simp only[M0,Mem.setCells,Mem.upd];split
       ·rename_i hx;rw[hx];exact h20
       ·rfl
      have hdel:HR σ2 (s2.H.put ab none) M0:=hr2.h.del h9 he fun x hx=>by simp[M0,hx h0]
      refine⟨h21,h22,zj7 hlv,.inl ⟨M0,us.take (n*size),⟨by rw[List.length_take,←hul,hlen2];have:n*size≤cp*size:=Nat.mul_le_mul_right _ hncp;omega,hncp,.inr ⟨e.addr,us,rfl,by simp[M0],hM,by rw[←hul];exact hlen2,rfl⟩⟩,fun a' c' M' _ ho=>fin hdel (h19.take _) h23 a' c' M' ho⟩⟩
     | _=>cases h10
  | g ab o d n'=>
   replace h5:(cB (Nat.beq o 0) (cB (Nat.beq d 0) (s2.hget ab fun x=>match x with
     | .gr E' z l=>cB (Nat.beq E' T) (cB (Nat.beq z size) (zng (n'*size) l fun l'=>s2.hset ab none fun s'=>grow T size bytes n' l' m lv s' K) fail) fail
     | _=>fail) fail) fail)=some w:=h5
   obtain⟨h6,h7⟩:=zr h5;obtain⟨h8,h9⟩:=zr h7;have ho0:=Nat.eq_of_beq_eq_true h6
   have hd0:=Nat.eq_of_beq_eq_true h8;subst ho0 hd0;obtain⟨ob, -, h10,h11⟩:=zcl h9;obtain⟨e,he,hob⟩:=hr2.h.has ab ob h10;have hu:=hcc
   simp only[CR,C.val,Option.bind_eq_some_iff] at hu;obtain⟨e',he',hu⟩:=hu;rw[he] at he';cases he';cases ob with
   | gr T' z' l=>
    replace h11:cB (Nat.beq T' T) (cB (Nat.beq z' size) (zng (n'*size) l fun l'=>s2.hset ab none fun s'=>grow T size bytes n' l' m lv s' K) fail) fail=some w:=h11;obtain⟨h12,h13⟩:=zr h11;obtain⟨h14,h15⟩:=zr h13;obtain⟨h16,h17⟩:=zpC h15;rw[zfv] at h17;have hT:=Nat.eq_of_beq_eq_true h12
    have hz:=Nat.eq_of_beq_eq_true h14;subst hT hz;obtain⟨us,h18,h19⟩:=hob;have hul:=h18.len
    obtain⟨h21,h22,h23⟩:=grow_s h17;split at hu<;>split at hu
    ·rename_i hn hc;cases hu;obtain⟨rfl, -, -⟩:=hc;have hdel:HR σ2 (s2.H.put ab none) M:=hr2.h.del h10 he fun x _=>rfl
     refine⟨h21,h22,zj7 hlv,.inl ⟨M,[],⟨by simp,Nat.le_refl _,.inl ⟨rfl,rfl,rfl⟩⟩,fun a' c' M' _ ho=>fin hdel (Lc:=l.take (0*z')) (Lv:=[]) (by rw[Nat.zero_mul];trivial) h23 a' c' M' ho⟩⟩
    ·cases hu
    ·rename_i hn hc;cases hu;rcases h19 with ⟨h19, -⟩|⟨h0,h19,h20⟩
     ·exact absurd h19 hn
     ·let M0:Mem:=fun x=>if x=e.addr then none else M x
      have hM:M=M0.setCells e.addr T' (us++e.sp):=by
       funext x;simp only[M0,Mem.setCells,Mem.upd];split
       ·rename_i hx;rw[hx];exact h19
       ·rfl
      have hdel:HR σ2 (s2.H.put ab none) M0:=hr2.h.del h10 he fun x hx=>by simp[M0,hx h0]
      refine⟨h21,h22,zj7 hlv,.inl ⟨M0,us.take (n*z'),⟨by rw[List.length_take];omega,by omega,.inr ⟨e.addr,us++e.sp,rfl,by simp[M0],hM,by rw[h20];simp,by rw[List.take_append_of_le_length (by omega)]⟩⟩,fun a' c' M' _ ho=>fin hdel (h18.take _) h23 a' c' M' ho⟩⟩
    ·cases hu
   | _=>cases h11
  | _=>cases h5
 | _=>cases h2
end
end
section
section
variable {P:Program} {σ:List E} {s:S} {t:St} {y:Out} {nb:Nat}
theorem SR.newU {fr:List (Nat×SV)} {bx:List BE} {M:Mem} (h:SR σ s ⟨fr,bx,M⟩) {b:Nat} (hb:M b=none) {o:O} {ob:Obj} (ho:∀ M',M' b=some ob→OR (σ++[⟨b,0,false,[]⟩]) ⟨b,0,false,[]⟩ o M') :
  SR (σ++[⟨b,0,false,[]⟩]) ⟨s.nl,s.tl,s.L,s.bx,s.n+1,s.H.put s.n (some o),s.g⟩ ⟨fr,bx,M.upd b ob⟩:=
 h.new (e:=⟨b,0,false,[]⟩) (fun x hx=>by simp[Mem.upd,hx rfl]) (fun _=>hb) (ho _ (by simp[Mem.upd]))
theorem zns (hn:s.n=σ.length) (e:E):(σ++[e])[s.n]? = some e:=by rw[hn];simp
theorem zLt:LS P .mkMap zGx:=fun {σ s t y K k} hr h hk=>by
 obtain⟨fr,bx,M⟩:=t;replace h:(s.new (.mp [] 0) fun a s'=>K (.c (.m a)) s')=some y:=h;rw[zme] at h;intro b hb;refine hk _ (.c (.m s.n)) _ _ _ ⟨⟨_,rfl⟩,Nat.le_refl _⟩ (hr.newU hb (o := .mp [] 0) fun M' hM=>⟨rfl,[],trivial,hM⟩) (zaS (by simp[C.val,zns hr.n])) h
theorem zrg {α β:Type} {Q:α→β→Prop} {l:List α} {r:List β} (h:All2 Q l r):∀ n,All2 Q (List.replicate n l).flatten (List.replicate n r).flatten
 | 0=>trivial
 | n+1=>by rw[List.replicate_succ,List.replicate_succ];exact h.append (zrg h n)
theorem zLu (T bytes:Nat) (z:List Value) (x w:Operand):LS P (.mkSlN T bytes z x w) (zGy T bytes z x w):=fun {σ s t y K k} hr h hk=>by
 refine zdc h hr.fr fun q n h1=>zdc h1 hr.fr fun q' c h2=>?_
 obtain⟨n,rfl,h3⟩:=zfs h2;obtain⟨c,rfl,h4⟩:=zfs h3;obtain⟨h5,h6⟩:=zr h4;obtain⟨h7,h8⟩:=zr h6;obtain⟨h9,h10⟩:=zr h8;obtain⟨l,h11,h12⟩:=zn3 σ h10;rw[ztM,zme] at h12;have hnc:=Nat.eq_of_beq_eq_true h5
 subst hnc;have hb:=Nat.le_of_ble_eq_true h7
 have hn:=Nat.le_of_ble_eq_true h9;obtain⟨fr,bx,M⟩:=t;refine⟨⟨by omega,rfl,by omega,by omega⟩,fun b hbn=>?_⟩;rw[Int.toNat_natCast];refine hk _ (.c (.l s.n 0 n n)) _ _ _ ⟨⟨_,rfl⟩,Nat.le_refl _⟩ (hr.newU hbn (o := .row T _) fun M' hM=>⟨rfl,_,zrg (h11.imp fun _ _ h=>h.mono _) n,hM⟩) (zaS (by simp[C.val,zns hr.n])) h12
theorem zLv (T bytes:Nat) (z:List Value) (x w:Operand):LS P (.mkSlC T bytes z x w) (zGz T bytes z x w):=fun {σ s t y K k} hr h hk=>by
 refine zdc h hr.fr fun q n h1=>zdc h1 hr.fr fun q' c h2=>?_
 obtain⟨n,rfl,h3⟩:=zfs h2;obtain⟨c,rfl,h4⟩:=zfs h3;obtain⟨h5,h6⟩:=zr h4;obtain⟨h7,h8⟩:=zr h6;obtain⟨h9,h10⟩:=zr h8;obtain⟨l,h11,h12⟩:=zn3 σ h10;rw[ztM,zme] at h12;have hnc:=Nat.le_of_ble_eq_true h5
 have hb:=Nat.le_of_ble_eq_true h7;have hn:=Nat.le_of_ble_eq_true h9
 obtain⟨fr,bx,M⟩:=t;refine⟨⟨by omega,by omega,by omega,by omega⟩,fun b hbn=>?_⟩;rw[Int.toNat_natCast,Int.toNat_natCast];refine hk _ (.c (.l s.n 0 n c)) _ _ _ ⟨⟨_,rfl⟩,Nat.le_refl _⟩ (hr.newU hbn (o := .row T _) fun M' hM=>⟨rfl,_,zrg (h11.imp fun _ _ h=>h.mono _) c,hM⟩) (zaS (by simp[C.val,zns hr.n])) h12
theorem zN8 (size:Nat) (x w:Operand):LS P (.cpy size x w) (zMJ size x w):=fun {σ s t y K k} hr h hk=>by
 refine zW h hr.fr fun v sv _ hv h1=>?_
 refine zmf h1 hr hv fun σ1 uw u s1 t1 hx1 hr1 huw h2=>?_
 cases uw with
 | c c=>
  replace h2:(zwk (.c c) fun a o m=>ev s1 w fun v=>src size v s1 fun n vs s2=>cB (Nat.ble n m) (zc5 vs fun q=>cB (Nat.blt 0 q) (cB (Nat.beq q (n*size)) (s2.hget a fun ob=>ob.wr o vs fun ob'=>s2.hset a (some ob') fun s3=>K (.c (.n .i64 (.ofNat n))) s3) fail) fail) fail)=some y:=h2;obtain⟨a,o,m,q,cp,rfl,h3,e,he,hq⟩:=zLs h2 huw;show Vm.ev t1 w _
  refine zW h3 hr1.fr fun v sv _ hv1 h4=>?_
  refine zKt h4 hr1 hv1 fun σ2 n lv vs s2 t2 hx2 hr2 hlv hlen h5=>?_
  obtain⟨h6,h7⟩:=zr h5;rw[zbA] at h7;obtain⟨h8,h9⟩:=zr h7;obtain⟨h10,h11⟩:=zr h9;have hnm:=Nat.le_of_ble_eq_true h6
  have hq0:0<lv.length:=by simpa[Nat.blt_eq] using h8
  have hqn:=Nat.eq_of_beq_eq_true h10;refine⟨⟨hnm,zj7 hlv⟩,?_⟩;rcases hq with rfl|⟨rfl, -⟩
  ·obtain⟨ob, -, h12,h13⟩:=zcl h11;obtain⟨e',he',ho⟩:=hr2.h.has a ob h12;rw[zmd hx2 he] at he';cases he';have hvs:lv≠[]:=fun h=>by rw[h] at hq0;simp at hq0
   obtain⟨ob',T,cs',h0,h14,h15,h16,h17⟩:=zH5 h13 ho (.inl hvs) hlv;rw[zfv] at h17;obtain⟨fr,bx,M⟩:=t2;show onO (M.cells e.addr) _
   rw[h14];refine⟨by rw[hlen] at h15;exact h15,?_⟩;exact hk σ2 (.c (.n .i64 (.ofNat n))) _ _ _ (hx1.trans (hx2.trans ⟨⟨[],by simp⟩,Nat.le_refl _⟩)) (hr2.heap (hr2.h.upd h12 (zmd hx2 he) zy4 h0 h16)) (ztc _ _) h17
  ·exfalso;have:n=0:=by omega
   rw[this,Nat.zero_mul] at hqn;omega
 | _=>cases h2
theorem zH9 (x:Operand):LS P (.strish x) (zCY x):=fun {σ s t y K k} hr h hk=>by
 refine zW h hr.fr fun v sv _ hv h1=>?_
 obtain⟨c,rfl,h2⟩:=zcE h1;cases c with
 | l a o n q=>
  obtain⟨sc,h5,rfl⟩:=hv.cc (by simp);obtain⟨w,h5,rfl⟩:=h5;simp only[C.val,Option.map_eq_some_iff] at h5;obtain⟨e,he,rfl⟩:=h5;obtain⟨ob, -, h6,h7⟩:=zcl h2;obtain⟨e',he',ho⟩:=hr.h.has a ob h6;rw[he] at he';cases he';obtain⟨fr,bx,M⟩:=t;show onO (M.textAt e.addr) _
  cases ob with
  | row T l=>
   obtain⟨h0,vs,h8,h9⟩:=ho;replace h9:M e.addr=some (.cells vs.toArray T (0,0)):=h9;replace h7:(s.hset a (some (.ro T l)) fun s'=>K (.c (.l a o n q)) s')=some y:=h7;rw[zfv] at h7;have ht:M.textAt e.addr=some (.cells vs.toArray T (vs.length,vs.length+1)):=by simp[Mem.textAt,h9]
   rw[ht];exact hk σ (.c (.l a o n q)) _ _ _ ⟨⟨[],by simp⟩,Nat.le_refl _⟩ (hr.heap (M':=M.upd e.addr (.cells vs.toArray T (vs.length,vs.length+1))) (hr.h.upd h6 he (o := .ro T l) (fun x hx=>by simp[Mem.upd,hx]) h0 ⟨h0,vs,h8,by simp[Mem.upd]⟩)) (zaS (by simp[C.val,he])) h7
  | ro T l=>
   obtain⟨h0,vs,h8,h9⟩:=ho;replace h9:M e.addr=some (.cells vs.toArray T (vs.length,vs.length+1)):=h9;replace h7:K (.c (.l a o n q)) s=some y:=h7
   have ht:M.textAt e.addr=some (.cells vs.toArray T (vs.length,vs.length+1)):=by
    simp[Mem.textAt,h9]
   rw[ht]
   have hM:M.upd e.addr (.cells vs.toArray T (vs.length,vs.length+1))=M:=by
    funext x;simp only[Mem.upd];split
    ·rename_i hx;rw[hx,h9]
    ·rfl
   show k _ ⟨fr,bx,M.upd e.addr _⟩;rw[hM];exact hk σ (.c (.l a o n q)) _ s _ Ext.rfl' hr (zaS (by simp[C.val,he])) h7
  | _=>cases h7
 | _=>cases h2
theorem zN9 (n:Nat) (x:Operand):LS P (.slA n x) (zML n x):=fun {σ s t y K k} hr h hk=>by
 refine zW h hr.fr fun v sv _ hv h1=>?_
 refine zmf h1 hr hv fun σ1 uw u s1 t1 hx1 hr1 huw h2=>?_
 split at h2
 ·rename_i a o;simp only[WR,CR,C.val,Option.map_eq_some_iff] at huw;obtain⟨e,he,rfl⟩:=huw;exact hk σ1 (.c (.l a o n n)) _ s1 t1 hx1 hr1 (zaS (by simp[C.val,he])) h2
 ·cases h2
theorem zOa (z:Value) (x:Operand):LS P (.clr z x) (zMK z x):=fun {σ s t y K k} hr h hk=>by
 refine zW h hr.fr fun v sv _ hv h1=>?_
 obtain⟨q,n,c,rfl,h2⟩:=ztS h1 hv;show zHD z q n t _
 cases n with
 | zero=>exact hk σ (.tp []) _ s t Ext.rfl' hr ⟨[],trivial,rfl⟩ h2
 | succ n=>
  replace h2:(zwk v fun a o _=>oV (C.ofV z) fun c=>zwj [c] (n+1) fun vs=>s.hget a fun ob=>ob.wr o vs fun ob'=>s.hset a (some ob') fun s'=>K (.tp []) s')=some y:=h2;obtain⟨a,o,n',x',c',h3,h4,e,he,hx⟩:=zBu h2 hv;cases h3;obtain⟨c0,h5,h6⟩:=zgh h4;rw[ztM] at h6;obtain⟨ob, -, h7,h8⟩:=zcl h6;obtain⟨e',he',ho⟩:=hr.h.has a ob h7;rw[he] at he';cases he';have hw:All2 (CR σ) (List.replicate (n+1) [c0]).flatten (List.replicate (n+1) [z]).flatten:=zrg (l:=[c0]) (r:=[z]) ⟨C.ofV_s h5 σ,trivial⟩ (n+1)
  have hf:(List.replicate (n+1) [z]).flatten=List.replicate (n+1) z:=by simp
  rw[hf] at hw;obtain⟨ob',T,cs',h0,h12,h13,h14,h15⟩:=zH5 h8 ho (.inl (by simp[List.replicate_succ])) hw;rw[zfv] at h15;obtain⟨fr,bx,M⟩:=t;rcases hx with rfl|⟨h, -⟩
  ·show onO (M.cells e.addr) _;rw[h12];refine⟨by rw[List.length_replicate] at h13;exact h13,?_⟩;exact hk σ (.tp []) _ _ _ ⟨⟨[],by simp⟩,Nat.le_refl _⟩ (hr.heap (hr.h.upd h7 he zy4 h0 h14)) ⟨[],trivial,rfl⟩ h15
  ·cases h
end
end
end Go.Vm.Rn
