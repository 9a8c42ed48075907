/- Part of this proof;laid by program. -/
import Derived.Test.YtdgikhhkgnjalaaGreatJ17
import Derived.Test.YtdgikhhkgnjalaaGreatJ9
import Derived.Test.YtdgikhhkgnjalaaGreatJ14
set_option linter.unusedVariables false
set_option linter.unusedSimpArgs false
namespace Go.Vm.Rn
open Go.Vm
set_option linter.unusedVariables false
section
theorem zB5 (a b k:Nat):sw a b k=if k=a then b else if k=b then a else k:=by
 show (Bool.rec (Bool.rec k a (Nat.beq k b)) b (Nat.beq k a):Nat)=_
 rw[zuk,zuk]
 by_cases h1:k=a
 ·simp[h1]
 ·rw[decide_eq_false h1,if_neg h1]
  by_cases h2:k=b
  ·rw[decide_eq_true h2,if_pos h2]
  ·rw[decide_eq_false h2,if_neg h2]
theorem zFy (a b k:Nat):sw a b (sw a b k)=k:=by
 simp only[zB5]
 by_cases h1:k=a
 ·by_cases h2:b=a<;>simp[h1,h2]
 ·by_cases h2:k=b
  ·simp[h2]
  ·simp[h1,h2]
def swL (σ:List E) (a b:Nat) (ea eb:E):List E:=(σ.set a eb).set b ea
theorem zMX {σ:List E} {a b:Nat} {ea eb:E} (ha:σ[a]? = some ea) (hb:σ[b]? = some eb) (k:Nat):(swL σ a b ea eb)[k]? = σ[sw a b k]?:= by
 have la:=(List.getElem?_eq_some_iff.1 ha).1
 have lb:=(List.getElem?_eq_some_iff.1 hb).1
 unfold swL
 rw[zB5,List.getElem?_set,List.getElem?_set]
 by_cases h1:k=a
 ·subst h1
  by_cases h2:b=k
  ·subst h2
   rw[ha] at hb
   cases hb
   rw[if_pos rfl,if_pos rfl,if_pos (by simpa using la),ha]
  ·simp[h2,la,hb]
 ·have h1':¬a=k:=fun e=>h1 e.symm
  by_cases h2:k=b
  ·subst h2;simp[h1,lb,ha]
  ·have h2':¬b=k:=fun e=>h2 e.symm
   simp[h1,h2,h1',h2']
section
variable {σ σ':List E} {a b:Nat}
def Sw (σ σ':List E) (a b:Nat):Prop:=∀ k,σ'[k]? = σ[sw a b k]?
theorem Sw.to (h:Sw σ σ' a b) (k:Nat):σ'[sw a b k]? = σ[k]? := by rw[h,zFy]
theorem C.ren_s (h:Sw σ σ' a b) (c:C):(c.ren a b).val σ'=c.val σ:=by
 cases c<;>simp only[C.ren,C.val,h.to]
theorem CR.ren (h:Sw σ σ' a b) {c:C} {v:Value} (hc:CR σ c v):CR σ' (c.ren a b) v:=(C.ren_s h c).trans hc
theorem SCR.ren (h:Sw σ σ' a b) {nb:Nat} {c:C} {x:SC} (hc:SCR σ nb c x):SCR σ' nb (c.ren a b) x:=by
 cases c with
 | b j o=>exact hc
 | p x o=>obtain⟨v,h1,h2⟩:=hc;exact⟨v,(C.ren_s h (.p x o)).trans h1,h2⟩
 | l x o n k=>obtain⟨v,h1,h2⟩:=hc;exact⟨v,(C.ren_s h (.l x o n k)).trans h1,h2⟩
 | g x o d n=>obtain⟨v,h1,h2⟩:=hc;exact⟨v,(C.ren_s h (.g x o d n)).trans h1,h2⟩
 | m x=>obtain⟨v,h1,h2⟩:=hc;exact⟨v,(C.ren_s h (.m x)).trans h1,h2⟩
 | fm g x o=>obtain⟨v,h1,h2⟩:=hc;exact⟨v,(C.ren_s h (.fm g x o)).trans h1,h2⟩
 | h x o d k z w=>obtain⟨v,h1,h2⟩:=hc;exact⟨v,(C.ren_s h (.h x o d k z w)).trans h1,h2⟩
 | _=>exact hc
theorem All2.mapL {α β γ:Type} {Q:α→β→Prop} {Q':γ→β→Prop} {f:α→γ} (hf:∀ x y,Q x y→Q' (f x) y):∀ {l:List α} {r:List β},All2 Q l r→All2 Q' (l.map f) r
 | [],[],_=>trivial
 | x::l,y::r,h=>⟨hf x y h.1,All2.mapL hf h.2⟩
 | [],_::_,h=>h.elim
 | _::_,[],h=>h.elim
theorem CRs.ren (h:Sw σ σ' a b) {l:List C} {vs:List Value} (hc:All2 (CR σ) l vs):All2 (CR σ') (l.map (C.ren a b)) vs:=All2.mapL (fun _ _ hq=>CR.ren h hq) hc
theorem SCRs.ren (h:Sw σ σ' a b) {nb:Nat} {l:List C} {vs:List SC} (hc:All2 (SCR σ nb) l vs):All2 (SCR σ' nb) (l.map (C.ren a b)) vs:=All2.mapL (fun _ _ hq=>SCR.ren h hq) hc
theorem WR.ren (h:Sw σ σ' a b) {w:W} {v:Value} (hc:WR σ w v):WR σ' (w.ren a b) v:=by
 cases w with
 | c x=>exact CR.ren h hc
 | ag l=>obtain⟨vs,h1,h2⟩:=hc;exact⟨vs,CRs.ren h h1,h2⟩
 | fn g l=>obtain⟨vs,h1,h2⟩:=hc;exact⟨vs,CRs.ren h h1,h2⟩
theorem VR.ren (h:Sw σ σ' a b) {nb:Nat} {v:V} {sv:SV} (hc:VR σ nb v sv):VR σ' nb (v.ren a b) sv:=by
 cases v with
 | c x=>
  rcases hc with ⟨sc,h1,h2⟩|⟨b',rfl,h2⟩
  ·exact .inl ⟨sc,SCR.ren h h1,h2⟩
  ·exact .inr ⟨b',rfl,h2⟩
 | ag l=>obtain⟨cs,h1,h2⟩:=hc;exact⟨cs,SCRs.ren h h1,h2⟩
 | fn g l=>
  rcases hc with ⟨cs,h1,h2⟩|⟨vs,h1,h2⟩
  ·exact .inl ⟨cs,SCRs.ren h h1,h2⟩
  ·exact .inr ⟨vs,CRs.ren h h1,h2⟩
 | tp l=>obtain⟨vs,h1,h2⟩:=hc;exact⟨vs,All2.mapL (fun _ _ hq=>WR.ren h hq) h1,h2⟩
 | sl j n=>exact hc
 | dead=>exact hc
theorem EnR.ren (h:Sw σ σ' a b) {e:En} {m:MapEntry} (hc:EnR σ e m):EnR σ' (e.ren a b) m:=⟨hc.1.ren h,hc.2.1.ren h,hc.2.2⟩
theorem OR.ren (h:Sw σ σ' a b) {e:E} {o:O} {M:Mem} (hc:OR σ e o M):OR σ' e (o.ren a b) M:=by
 cases o with
 | row E l=>obtain⟨h0,vs,h1,h2⟩:=hc;exact⟨h0,vs,CRs.ren h h1,h2⟩
 | ro E l=>obtain⟨h0,vs,h1,h2⟩:=hc;exact⟨h0,vs,CRs.ren h h1,h2⟩
 | gr E z l=>
  obtain⟨vs,h1,h2⟩:=hc
  refine⟨vs,CRs.ren h h1,?_⟩
  rcases h2 with ⟨h3,h4,h5⟩|h2
  ·exact .inl ⟨h3,by rw[h4];rfl,h5⟩
  ·exact .inr h2
 | mp es c=>obtain⟨h0,ms,h1,h2⟩:=hc;exact⟨h0,ms,All2.mapL (fun _ _ hq=>EnR.ren h hq) h1,h2⟩
 | it m s l t=>
  obtain⟨h0,x,h1,h2⟩:=hc
  refine⟨h0,x,?_,h2⟩
  cases m with
  | none=>exact h1
  | some k=>obtain⟨e',h3,h4⟩:=h1;exact⟨e',(h.to k).trans h3,h4⟩
 | si l p=>exact hc
theorem BR.ren (h:Sw σ σ' a b) {nb:Nat} {x:B} {y:BE} (hc:BR σ nb x y):BR σ' nb (x.ren a b) y:=by
 cases x with
 | live T l=>obtain⟨cs,h1,h2⟩:=hc;exact⟨cs,SCRs.ren h h1,h2⟩
 | gone k=>obtain⟨e,h1,h2⟩:=hc;exact⟨e,(h.to k).trans h1,h2⟩
 | dark=>exact hc
theorem T.zum:∀ (t:T O) (k:Nat),(t.ren a b).get k=(t.get k).map (O.ren a b)
 | .e,_=>rfl
 | .n l v r,0=>rfl
 | .n l v r,m+1=>by
  show (T.n (l.ren a b) (v.map (O.ren a b)) (r.ren a b)).get (m+1)=_
  rw[T.get_1,T.get_1]
  split
  ·exact T.zum r _
  ·exact T.zum l _
theorem T.zun {H:T O} {k:Nat} {o:O} (h:(H.swp a b).get k=some o):∃ o0,H.get (sw a b k)=some o0∧o=o0.ren a b:=by
 unfold T.swp T.zMI at h
 rw[T.set_put,T.set_put] at h
 have opt:∀ {x:Option O},x.map (O.ren a b)=some o→∃ o0,x=some o0∧o=o0.ren a b:=fun {x} h=>by
  rw[Option.map_eq_some_iff] at h
  obtain⟨o0,h1,h2⟩:=h
  exact⟨o0,h1,h2.symm⟩
 rw[zB5]
 rcases T.get_put h with ⟨rfl,h1⟩|⟨h0,h1⟩
 ·obtain⟨o0,h2,h3⟩:=opt h1
  by_cases hab:k=a
  ·subst hab;exact⟨o0,by rw[if_pos rfl];exact h2,h3⟩
  ·exact⟨o0,by rw[if_neg hab,if_pos rfl];exact h2,h3⟩
 ·rcases T.get_put h1 with ⟨rfl,h2⟩|⟨h3,h2⟩
  ·obtain⟨o0,h4,h5⟩:=opt h2
   exact⟨o0,by rw[if_pos rfl];exact h4,h5⟩
  ·rw[T.zum] at h2
   obtain⟨o0,h4,h5⟩:=opt h2
   exact⟨o0,by rw[if_neg h3,if_neg h0];exact h4,h5⟩
theorem HR.swp (h:Sw σ σ' a b) {H:T O} {M:Mem} (hr:HR σ H M):HR σ' (H.swp a b) M:=by
 refine⟨fun k o hk=>?_,fun k k' o o' e e' hk hk' he he' hn hn' hadr=>?_⟩
 ·obtain⟨o0,h1,rfl⟩:=T.zun hk
  obtain⟨e,h2,h3⟩:=hr.has _ _ h1
  exact⟨e,(h k).trans h2,h3.ren h⟩
 ·obtain⟨o0,h1,rfl⟩:=T.zun hk
  obtain⟨o1,h2,rfl⟩:=T.zun hk'
  have:=hr.inj _ _ _ _ _ _ h1 h2 ((h k).symm.trans he) ((h k').symm.trans he') hn hn' hadr
  rw[←zFy a b k,this,zFy]
theorem zC7 {f:V→V} {d:Nat}:∀ {l:List (Nat×V)},zsj (l.map fun p=>(p.1,f p.2)) d=(zsj l d).map f
 | []=>rfl
 | (k,v)::l=>by
  rw[List.map_cons,zlw,zlw,zC7]
  split<;>rfl
variable {s:S} {t:St}
theorem SR.swp (hr:SR σ s t) (h:Sw σ σ' a b) (hl:σ'.length=σ.length):SR σ' (s.swp a b) t:=by
 obtain⟨nl,tl,L,bx,n,H,g⟩:=s
 refine⟨hr.n.trans hl.symm,fun d v hd=>?_,All2.mapL (fun _ _ hq=>BR.ren h hq) hr.bx,hr.h.swp h⟩
 have h1:S.fget (S.swp a b ⟨nl,tl,L,bx,n,H,g⟩) d=(S.fget ⟨nl,tl,L,bx,n,H,g⟩ d).map (V.ren a b):=by
  show S.fget ⟨nl,tl.map fun p=>(p.1,p.2.ren a b),L.map fun v=>v.map (V.ren a b),bx.map (B.ren a b),n,H.swp a b,g⟩ d=_
  rw[zjI,zjI,zC7]
  split
  ·rfl
  ·rw[List.getElem?_map]
   cases L[d]? <;> simp
 rw[h1,Option.map_eq_some_iff] at hd
 obtain⟨v0,h2,rfl⟩:=hd
 obtain⟨h3,sv,h4,h5⟩:=hr.fr d v0 h2
 refine⟨fun e=>h3 ?_,sv,h4,h5.ren h⟩
 cases v0<;>first|rfl|cases e
theorem zC8 {σ0:List E} (ha:σ0.length≤a) (hb:σ0.length≤b) (hx:∃ τ,σ=σ0++τ) (hr:SR σ s t):∃ σ'',(∃ τ,σ''=σ0++τ)∧SR σ'' (s.cs a b) t:=by
 unfold S.cs
 cases hq:swB a b s.H with
 | false=>exact⟨σ,hx,hr⟩
 | true=>
  unfold swB at hq
  split at hq
  ·rename_i x y h1 h2
   obtain⟨ea,h3, -⟩:=hr.h.has a x h1
   obtain⟨eb,h4, -⟩:=hr.h.has b y h2
   have hS:Sw σ (swL σ a b ea eb) a b:=zMX h3 h4
   have hl:(swL σ a b ea eb).length=σ.length:=by simp[swL]
   refine⟨swL σ a b ea eb,?_,hr.swp hS hl⟩
   obtain⟨τ,rfl⟩:=hx
   refine⟨(swL (σ0++τ) a b ea eb).drop σ0.length,?_⟩
   have h5:(swL (σ0++τ) a b ea eb).take σ0.length=σ0:=by
    refine List.ext_getElem? fun k=>?_
    rw[List.getElem?_take]
    split
    ·rename_i hk
     rw[hS k,zB5,if_neg (by omega),if_neg (by omega),List.getElem?_append_left hk]
    ·rename_i hk
     rw[List.getElem?_eq_none (by omega)]
   rw[←List.take_append_drop σ0.length (swL (σ0++τ) a b ea eb),h5]
   simp
  ·cases hq
theorem zLD {σ0:List E} {n:Nat} (hn:σ0.length=n) (hx:∃ τ,σ=σ0++τ) (hr:SR σ s t):∃ σ'',(∃ τ,σ''=σ0++τ)∧SR σ'' (zFm n s) t:=by
 unfold zFm
 obtain⟨σ1,x1,h1⟩:=zC8 (a:=n) (b:=n+1) (by omega) (by omega) hx hr
 obtain⟨σ2,x2,h2⟩:=zC8 (a:=n+2) (b:=n+3) (by omega) (by omega) x1 h1
 obtain⟨σ3,x3,h3⟩:=zC8 (a:=n) (b:=n+2) (by omega) (by omega) x2 h2
 obtain⟨σ4,x4,h4⟩:=zC8 (a:=n+1) (b:=n+3) (by omega) (by omega) x3 h3
 exact zC8 (a:=n+1) (b:=n+2) (by omega) (by omega) x4 h4
theorem zhG {α:Type} {f:α→(α→R)→R} (hf:∀ x K,f x K=K x):∀ (l:List α) (K:List α→R),zhU f l K=K l
 | [],_=>rfl
 | x::l,K=>by
  show f x (fun a'=>zhU f l fun r=>K (a'::r))=_
  rw[hf,zhG hf l]
theorem zAH {α:Type} {f:α→(α→R)→R} (hf:∀ x K,f x K=K x) (x:Option α) (K:Option α→R):zAx f x K=K x:=by
 cases x with
 | none=>rfl
 | some v=>exact hf v _
theorem zrp (c:C) (K:C→R):fcC c K=K c:=by cases c<;>simp only[fcC,fN_eq]
theorem zC9 (w:W) (K:W→R):fcW w K=K w:=by cases w<;>simp only[fcW,zrp,zhG zrp]
theorem zHT (v:V) (K:V→R):fcV v K=K v:=by cases v<;>simp only[fcV,zrp,zhG zrp,zhG zC9]
theorem zMY (e:En) (K:En→R):fcE e K=K e:=by
 obtain⟨k,v,n⟩:=e
 show (fcW k fun k=>fcW v fun v=>K ⟨k,v,n⟩)=_
 rw[zC9,zC9]
theorem zMZ (o:O) (K:O→R):fcO o K=K o:=by
 cases o<;>simp only[fcO,zhG zrp,zhG zMY]
 exact zAH (fun x K=>fN_eq K x) _ _
theorem zM0 (x:B) (K:B→R):fcB x K=K x:=by cases x<;>simp only[fcB,zhG zrp,fN_eq]
theorem zDa:∀ (t:T O) (K:T O→R),fcT t K=K t
 | .e,_=>rfl
 | .n l v r,K=>by
  show fcT l (fun l=>zAx fcO v fun v=>fcT r fun r=>K (.n l v r))=_
  rw[zDa l,zAH zMZ,zDa r]
theorem zM1 (s:S) (K:S→R):fcS s K=K s:=by
 obtain⟨nl,tl,L,bx,n,H,g⟩:=s
 show (zhU (fun p K=>Prod.rec (fun d v=>fcV v fun v=>K (d,v)) p) tl fun tl=>zhU (zAx fcV) L fun L=>zhU fcB bx fun bx=>fcT H fun H=>K ⟨nl,tl,L,bx,n,H,g⟩)=_
 rw[zhG (fun p K=>by obtain⟨d,v⟩:=p;exact zHT v _),zhG (fun x K=>zAH zHT x K),zhG zM0,zDa]
end
end
section
section
variable {P:Program} {F:Cal} {σ:List E} {s:S} {t:St} {y:Out} {nb:Nat}
def Md.rd (md:Md) (a:Nat):Prop:=match md with | .kp l=>mem a l=true|_=>True
def Md.g (md:Md):Option (List Nat):=match md with | .kp l=>some l|_=>none
def XR (σ:List E) (md:Md) (HX:T O) (X:Mem):Prop:=∀ a o,md.rd a→HX.get a=some o→∃ e,σ[a]? = some e∧OR σ e o X
def XK (σ:List E) (md:Md) (HX:T O) (X:Mem):Prop:=match md with | .kp l=>∀ b x,X b=some x→∃ a∈l,∃ o e,HX.get a=some o∧σ[a]? = some e∧e.nil=false∧e.addr=b|_=>True
theorem XR.ext {md:Md} {HX:T O} {X:Mem} (h:XR σ md HX X) {σ':List E} {t':St} (x:Ext σ t σ' t'):XR σ' md HX X:=fun a o ha hg=>by
 obtain⟨e,h1,h2⟩:=h a o ha hg
 obtain⟨τ,rfl⟩:=x.σ
 exact⟨e,zm5 τ h1,h2.mono τ⟩
theorem XK.ext {md:Md} {HX:T O} {X:Mem} (h:XK σ md HX X) {σ':List E} {t':St} (x:Ext σ t σ' t'):XK σ' md HX X:=by
 cases md with
 | kp l=>
  intro b u hb
  obtain⟨a,h1,o,e,h2,h3,h4⟩:=h b u hb
  exact⟨a,h1,o,e,h2,znD x h3,h4⟩
 | _=>trivial
theorem BRs.ext {l:List B} {r:List BE} (h:All2 (BR σ t.bx.length) l r) {σ':List E} {t':St} (x:Ext σ t σ' t'):All2 (BR σ' t'.bx.length) l r:=by
 obtain⟨τ,rfl⟩:=x.σ
 exact h.imp fun _ _ hb=>hb.mono τ x.bx
theorem zOd {md:Md} (hmd:md ≠ .coll) {bx0:List B} {bx0x:List BE} {o:zQ} (hq:zp o.op=true∨∀ (s:S) (K:V→R),qd o.op s K=none) {HX:T O} {X:Mem} {acc:List Nat} {K:S→List Nat→R} (h:tk md bx0 o HX s acc K=some y) (hr:SR σ s t) (hX:XR σ md HX X) (hb:All2 (BR σ t.bx.length) bx0 bx0x) {k:St→Prop}
  (hk:∀ s' t',Ext σ t σ t'→SR σ s' t'→K s' acc=some y→k t') :
  match o.guard with
  | none=>vq o.op ⟨t.fr,bx0x,X⟩ fun sv=>zhq o.sp sv fun sv'=>t.putK o.dst sv' k
  | some (g,b)=>Vm.ev t (.tmp g) fun gv=>brG b gv (vq o.op ⟨t.fr,bx0x,X⟩ fun sv=>zhq o.sp sv fun sv'=>t.putK o.dst sv' k) (t.putK o.dst SV.skip k):=by
 have hext:∀ (d:Option Nat) (sv:SV),Ext σ t σ (t.put d sv):=fun d sv=>⟨⟨[],by simp⟩,by cases d<;>exact Nat.le_refl _⟩
 have one:tk1 md bx0 o HX s acc K=some y→vq o.op ⟨t.fr,bx0x,X⟩ fun sv=>zhq o.sp sv fun sv'=>t.putK o.dst sv' k:=fun h1=>by
  have h2:(qd o.op (s.with bx0 HX md.g) fun v=>sp o.sp v fun v'=>s.put o.dst v' fun s'=>K s' acc)=some y:=by
   cases md with
   | coll=>exact absurd rfl hmd
   | free=>exact h1
   | kp l=>exact h1
  rcases hq with hq|hq
  ·have hQ:QR σ t.bx.length (s.with bx0 HX md.g) ⟨t.fr,bx0x,X⟩:=by
    obtain⟨nl,tl,L,bx,n,H,g⟩:=s
    refine⟨hr.fr,hb,fun a o ha hg=>hX a o ?_ hg⟩
    cases md with
    | kp l=>exact ha
    | _=>trivial
   exact zN9 o.op hq hQ h2 fun v sv hv h3=>zMV h3 hv fun v' sv' hv' h4=>by
    obtain⟨s'',h5,h6⟩:=hr.put_s h4 hv'
    rw[zhE]
    exact hk s'' _ (hext _ _) h6 h5
  ·rw[hq] at h2;cases h2
 have h':(match o.guard with|none=>tk1 md bx0 o HX s acc K|some g=>ev s (.tmp g.1) fun v=>gd g.2 v (tk1 md bx0 o HX s acc K) (s.put o.dst zsl fun s'=>K s' acc))=some y:=by
  unfold tk at h
  cases hg:o.guard with
  | none=>rw[hg] at h;exact h
  | some g=>rw[hg] at h;exact h
 cases hg:o.guard with
 | none=>rw[hg] at h';exact one h'
 | some g=>
  rw[hg] at h'
  obtain⟨g,b⟩:=g
  refine zD h' hr.fr fun v sv _ hv h1=>zFw h1 hv one (fun h2=>?_)
  obtain⟨s'',h3,h4⟩:=hr.put_s h2 zAG
  rw[zhE]
  exact hk s'' _ (hext _ _) h4 h3
theorem zNQ {o:ROp}:zp o=true∨∀ (s:S) (K:V→R),qd o s K=none:=by
 cases o<;>first|exact .inl rfl|exact .inr fun _ _=>rfl
theorem zM2 {md:Md} (hmd:md ≠ .coll) {more:DTree} {a b:R} (h:zFq md more a b=some y):a=some y∧(more = .none∨b=some y):=by
 unfold zFq at h
 cases hn:isNone more with
 | true=>
  rw[hn] at h
  refine⟨h,.inl ?_⟩
  cases more<;>first|rfl|cases hn
 | false=>
  rw[hn] at h
  cases md with
  | coll=>exact absurd rfl hmd
  | free=>obtain⟨h3,h4⟩:=zHS h;exact⟨h3,.inr h4⟩
  | kp l=>obtain⟨h3,h4⟩:=zHS h;exact⟨h3,.inr h4⟩
theorem zNR (hF:FOk P F) {o:zQ} {K K2:S→R} (h:opD F o s K K2=some y) (hr:SR σ s t) {k k2:St→Prop} (hk:∀ σ' s' t',Ext σ t σ' t'→SR σ' s' t'→K s'=some y→k t') (hk2:∀ s' t',Ext σ t σ t'→SR σ s' t'→K2 s'=some y→k2 t') :
  match o.guard with
  | none=>vop P o t k
  | some (g,b)=>Vm.ev t (.tmp g) fun sv=>brG b sv (vop P o t k) (t.putK o.dst SV.skip k2):=by
 have h':(match o.guard with|none=>op F o s K|some g=>ev s (.tmp g.1) fun v=>gd g.2 v (op F o s K) (s.put o.dst zsl K2))=some y:=by
  unfold opD at h
  cases hg:o.guard with
  | none=>rw[hg] at h;exact h
  | some g=>rw[hg] at h;exact h
 cases hg:o.guard with
 | none=>rw[hg] at h';exact zFv hF h' hr hk
 | some g=>
  rw[hg] at h'
  obtain⟨g,b⟩:=g
  refine zD h' hr.fr fun v sv _ hv h1=>zFw h1 hv (fun h2=>zFv hF h2 hr hk) (fun h2=>?_)
  obtain⟨s'',h3,h4⟩:=hr.put_s h2 zAG
  rw[zhE]
  refine hk2 s'' _ ⟨⟨[],by simp⟩,?_⟩ h4 h3
  cases o.dst<;>exact Nat.le_refl _
theorem zuo (hF:FOk P F) {md:Md} (hmd:md ≠ .coll) {bx0:List B} {bx0x:List BE}:∀ {tr:DTree} {σ:List E} {s:S} {t:St} {HX:T O} {X:Mem} {acc:List Nat} {K:S→List Nat→R},dr F md bx0 tr HX s acc K=some y→SR σ s t→XR σ md HX X→XK σ md HX X →
  All2 (BR σ t.bx.length) bx0 bx0x→∀ {k:St→Prop},(∀ σ' s' t',Ext σ t σ' t'→SR σ' s' t'→K s' acc=some y→k t')→za3 P X bx0x tr t k
 | .done,σ,s,t,HX,X,acc,K,h,hr,hX,hK,hb,k,hk=>hk σ s t Ext.rfl' hr h
 | .none,σ,s,t,HX,X,acc,K,h,hr,hX,hK,hb,k,hk=>trivial
 | .take o tr,σ,s,t,HX,X,acc,K,h,hr,hX,hK,hb,k,hk=>by
  have h':tk md bx0 o HX s acc (fun s' acc'=>dr F md bx0 tr HX s' acc' K)=some y:=h
  have:=zOd hmd zNQ h' hr hX hb (k:=fun t'=>za3 P X bx0x tr t' k) fun s' t' hx hr' h1=>zuo hF hmd h1 hr' (hX.ext hx) (hK.ext hx) (BRs.ext hb hx) fun σ'' s'' t'' hx' hr'' h2=>hk σ'' s'' t'' (hx.trans hx') hr'' h2
  obtain⟨fr,bx,M⟩:=t
  exact this
 | .alt o need tr more,σ,s,t,HX,X,acc,K,h,hr,hX,hK,hb,k,hk=>by
  have h':zFq md more (opD F o s (fun s'=>zFp need md bx0 HX s' fun HX'=>dr F md bx0 tr HX' s' acc K) (fun s'=>dr F md bx0 tr HX s' acc K)) (dr F md bx0 more HX s acc K)=some y:=h
  have h2:(opD F o s (fun s'=>zFp need md bx0 HX s' fun HX'=>dr F md bx0 tr HX' s' acc K) (fun s'=>dr F md bx0 tr HX s' acc K))=some y∧(more = .none∨dr F md bx0 more HX s acc K=some y):=zM2 hmd h'
  obtain⟨h3,h4⟩:=h2
  refine⟨?_,?_⟩
  ·refine zNR hF h3 hr (fun σ' s' t' hx hr' h5=>?_) (fun s' t' hx hr' h5=>zuo hF hmd h5 hr' (hX.ext hx) (hK.ext hx) (BRs.ext hb hx) fun σ'' s'' t'' hx' hr'' h6=>hk σ'' s'' t'' (hx.trans hx') hr'' h6)
   ·         cases need with
    | false=>exact zuo hF hmd h5 hr' (hX.ext hx) (hK.ext hx) (BRs.ext hb hx) fun σ'' s'' t'' hx' hr'' h6=>hk σ'' s'' t'' (hx.trans hx') hr'' h6
    | true=>
     cases md with
     | coll=>exact absurd rfl hmd
     | free=>cases h5
     | kp l=>
      obtain⟨h6,h7⟩:=zn (b:=zCQ l HX s'.H) h5
      obtain⟨h8,h9⟩:=zn h7
      refine zKw hr'.h ?_ h8 (BRs.ext hb hx) hr'.bx
      refine⟨part σ' s'.H t'.M l,fun b u hbu=>?_,part_le,?_⟩
      ·obtain⟨a,ha,o',e,hg,he,hn,hadr⟩:=hK b u hbu
       obtain⟨e',he',ho⟩:=hX a o' (mem_s.2 ha) hg
       rw[he] at he';cases he'
       have hg':=zC6 h6 a ha o' hg
       obtain⟨e2,he2,ho2⟩:=hr'.h.has a o' hg'
       rw[znD hx he] at he2;cases he2
       obtain⟨τ,rfl⟩:=hx.σ
       have:=OR.fn (ho.mono τ) ho2 hn
       rw[hadr] at this
       unfold part
       rw[if_pos ⟨a,ha,o',e,hg',zm5 τ he,hn,hadr⟩,←this]
       exact hbu
      ·refine zuo hF hmd h9 hr' (fun a o' ha hg=>zxS hr'.h (mem_s.1 ha) hg) (fun b u hbu=>?_) (BRs.ext hb hx) fun σ'' s'' t'' hx' hr'' h6=>hk σ'' s'' t'' (hx.trans hx') hr'' h6
       obtain⟨a,ha,o',e,hg,he,hn,hadr, -⟩:=zul hbu
       exact⟨a,ha,o',e,hg,he,hn,hadr⟩
  ·rcases h4 with rfl|h4
   ·trivial
   ·exact zuo hF hmd h4 hr hX hK hb hk
theorem zuP:∀ tr:DTree,zCR tr=zi6 tr
 | .done=>rfl
 | .none=>rfl
 | .take _ tr=>zuP tr
 | .alt _ need tr more=>by
  show (need||zCR tr||zCR more)=(need||zi6 tr||zi6 more)
  rw[zuP tr,zuP more]
theorem zuQ:∀ tr:DTree,zCS tr=zn7 tr
 | .done=>rfl
 | .none=>rfl
 | .take _ tr=>zuQ tr
 | .alt o need tr more=>by
  show ((need&&zuD o.op)||zCS tr||zCS more)=((need&&zuD o.op)||zn7 tr||zn7 more)
  rw[zuQ tr,zuQ more]
theorem zFz {ks:List Nat} {d:Nat→Nat}:∀ {l:List B} {r:List BE} {i:Nat},All2 (BR σ nb) l r→All2 (BR σ nb) (zIA ks l i) (dim ks d i r)
 | [],[],_,_=>trivial
 | b::l,x::r,i,h=>by
  show All2 (BR σ nb) (Bool.rec b .dark (mem i ks)::zIA ks l (i+1)) ((if i∈ks then .gone (d i) else x)::dim ks d (i+1) r)
  cases hm:mem i ks with
  | true=>rw[if_pos (mem_s.1 hm)];exact⟨⟨d i,rfl⟩,zFz h.2⟩
  | false=>rw[if_neg (fun hi=>by rw[mem_s.2 hi] at hm;cases hm)];exact⟨h.1,zFz h.2⟩
 | [],_::_,_,h=>h.elim
 | _::_,[],_,h=>h.elim
theorem zHU (hF:FOk P F) {tr:DTree} {K:S→R} (h:draw F tr s K=some y) (hr:SR σ s t) {k:St→Prop} (hk:∀ σ' s' t',Ext σ t σ' t'→SR σ' s' t'→K s'=some y→k t'):zuE P tr t k:=by
 unfold draw at h
 unfold zuE
 rw[←zuP]
 cases ha:zCR tr with
 | false=>
  rw[ha] at h
  obtain⟨fr,bx,M⟩:=t
  exact zuo hF (by simp) h hr (fun a o _ hg=>hr.h.has a o hg) trivial hr.bx hk
 | true=>
  rw[ha] at h
  obtain⟨z, -, h1⟩:=zhV h
  split at h1
  ·rw[za8,za8] at h1
   rw[←zuQ]
   cases hs:zCS tr with
   | true=>
    rw[hs] at h1
    refine⟨_,part σ s.H t.M _,part_le,fun d=>zuo hF (md := .kp _) (by simp) h1 hr (fun a o ha hg=>zxS hr.h (mem_s.1 ha) hg) (fun b u hbu=>?_) (zFz hr.bx) hk⟩
    obtain⟨a,ha,o',e,hg,he,hn,hadr, -⟩:=zul hbu
    exact⟨a,ha,o',e,hg,he,hn,hadr⟩
   | false=>
    rw[hs] at h1
    refine⟨part σ s.H t.M _,part_le,zuo hF (md := .kp _) (by simp) h1 hr (fun a o ha hg=>zxS hr.h (mem_s.1 ha) hg) (fun b u hbu=>?_) hr.bx hk⟩
    obtain⟨a,ha,o',e,hg,he,hn,hadr, -⟩:=zul hbu
    exact⟨a,ha,o',e,hg,he,hn,hadr⟩
  ·cases h1
theorem zLE (hF:FOk P F) {tr:DTree} {K:S→R} (h:zB2 F tr s K=some y) (hr:SR σ s t) {k:St→Prop} (hk:∀ σ' s' t',Ext σ t σ' t'→SR σ' s' t'→K s'=some y→k t'):zuE P tr t k:=by
 unfold zB2 at h
 split at h
 ·obtain⟨z,h1,h2⟩:=zhV h
  split at h2
  ·rename_i e s1
   refine zHU hF h1 hr fun σ' s' t' hx hr' h3=>?_
   obtain⟨s'',h4,h5⟩:=zFx h3 hr'
   rw[zM1] at h4
   cases h4
   obtain⟨σ'',h6,h7⟩:=zLD hr.n.symm hx.σ h5
   exact hk σ'' _ t' ⟨h6,hx.bx⟩ h7 h2
  ·cases h2
 ·exact zHU hF h hr hk
theorem VR.lt {v:V} {sv:SV} (h:VR σ nb v sv):sv.lt nb=true:=by
 have sc:∀ {c:C} {x:SC},SCR σ nb c x→x.lt nb=true:=fun {c x} h=>by
  cases c with
  | b j o=>obtain⟨h1,rfl⟩:=h;exact decide_eq_true h1
  | _=>obtain⟨v, -, rfl⟩:=h;rfl
 have scs:∀ {l:List C} {xs:List SC},All2 (SCR σ nb) l xs→xs.all (SC.lt nb)=true:=fun {l xs} h=>by
  induction l generalizing xs with
  | nil=>cases xs with
   | nil=>rfl
   | cons _ _=>exact h.elim
  | cons c l ih=>cases xs with
   | nil=>exact h.elim
   | cons x xs=>rw[List.all_cons,sc h.1,ih h.2];rfl
 cases v with
 | c x=>
  rcases h with ⟨x,h1,rfl⟩|⟨b, -, rfl⟩
  ·exact sc h1
  ·rfl
 | ag l=>obtain⟨cs,h1,rfl⟩:=h;exact scs h1
 | fn g l=>
  rcases h with ⟨cs,h1,rfl⟩|⟨vs, -, rfl⟩
  ·exact scs h1
  ·rfl
 | tp l=>obtain⟨vs, -, rfl⟩:=h;rfl
 | sl j n=>obtain⟨h1,rfl⟩:=h;exact decide_eq_true h1
 | dead=>cases h;rfl
theorem BR.lt {b:B} {x:BE} (h:BR σ nb b x):x.lt nb=true:=by
 cases b with
 | live T l=>
  obtain⟨cs,h1,rfl⟩:=h
  exact VR.lt (v := .ag l) ⟨cs,h1,rfl⟩
 | gone a=>obtain⟨e, -, rfl⟩:=h;rfl
 | dark=>obtain⟨a,rfl⟩:=h;rfl
theorem zA8 {l:List (Nat×SV)}:∀ {r:List (Nat×SV)},(∀ p∈r,lk l p.1=some p.2)→zBW l r
 | [],_=>trivial
 | (d,sv)::r,h=>⟨h (d,sv) (by simp),zA8 fun p hp=>h p (List.mem_cons_of_mem _ hp)⟩
theorem zzD:∀ l:List BE,zBX l l
 | []=>trivial
 | _::l=>⟨rfl,zzD l⟩
theorem zKx {fr:List (Nat×SV)} {p:Nat→Bool} {d:Nat} {sv:SV} (hd:lk fr d=some sv) (hp:p d=true):∀ {l:List Nat},d∈l→lk (l.filterMap fun d=>if p d then (lk fr d).map fun sv=>(d,sv) else none) d=some sv
 | [],h=>by cases h
 | x::l,h=>by
  rw[List.filterMap_cons]
  by_cases hx:x=d
  ·subst hx
   rw[hp,if_pos rfl,hd]
   show lk ((x,sv)::_) x=_
   rw[zo3,if_pos rfl]
  ·have hl:d∈l:=by
    rcases List.mem_cons.1 h with h|h
    ·exact absurd h.symm hx
    ·exact h
   have ih:=zKx hd hp hl
   cases hpx:p x with
   | false=>simp only[Bool.false_eq_true,if_false];exact ih
   | true=>
    simp only[if_true]
    cases hlx:lk fr x with
    | none=>exact ih
    | some u=>show lk ((x,u)::_) d=_;rw[zo3,if_neg hx];exact ih
theorem zDb {d:Nat} {v:V}:∀ {l:List (Nat×V)},zsj l d=some v→d∈l.map Prod.fst
 | [],h=>by cases h
 | (k,u)::l,h=>by
  rw[zlw] at h
  split at h
  ·rename_i hk;subst hk;simp
  ·exact List.mem_cons_of_mem _ (zDb h)
theorem zKy (hr:SR σ s t):∃ t',SR σ s t'∧t'.sub t∧t'.bx=t.bx:=by
 let p:Nat→Bool:=fun d=>(s.fget d).isSome
 let fr':=(s.tl.map Prod.fst++List.range s.L.length).filterMap fun d=>if p d then (lk t.fr d).map fun sv=>(d,sv) else none
 have hfr:FR σ t.bx.length s fr':=fun d v hd=>by
  obtain⟨h0,sv,h1,h2⟩:=hr.fr d v hd
  refine⟨h0,sv,zKx h1 (by simp[p,hd]) ?_,h2⟩
  obtain⟨nl,tl,L,bx,n,H,g⟩:=s
  rw[zjI] at hd
  split at hd
  ·exact List.mem_append.2 (.inl (zDb hd))
  ·refine List.mem_append.2 (.inr (List.mem_range.2 ?_))
   by_cases hl:d<L.length
   ·exact hl
   ·rw[List.getElem?_eq_none (by omega)] at hd;cases hd
 have hmem:∀ q∈fr',lk t.fr q.1=some q.2∧∃ v,s.fget q.1=some v:=fun q hq=>by
  obtain⟨d, -, h1⟩:=List.mem_filterMap.1 hq
  split at h1
  ·rename_i hp
   rw[Option.map_eq_some_iff] at h1
   obtain⟨sv,h2,rfl⟩:=h1
   exact⟨h2,Option.isSome_iff_exists.1 hp⟩
  ·cases h1
 refine⟨⟨fr',t.bx,t.M⟩,⟨hr.n,hfr,hr.bx,hr.h⟩,⟨zA8 fun q hq=>(hmem q hq).1,zzD _,Mem.le_refl _,?_⟩,rfl⟩
 show (fr'.all (fun p=>p.2.lt t.bx.length)&&t.bx.all (BE.lt t.bx.length))=true
 rw[Bool.and_eq_true]
 constructor
 ·rw[List.all_eq_true]
  intro q hq
  obtain⟨h1,v,h2⟩:=hmem q hq
  obtain⟨-, sv,h3,h4⟩:=hr.fr q.1 v h2
  rw[h1] at h3;cases h3
  exact h4.lt
 ·have hb:=hr.bx
  generalize t.bx.length=m at hb
  clear hmem hfr
  revert hb
  generalize t.bx=r
  generalize s.bx=l
  intro hb
  induction l generalizing r with
  | nil=>cases r with
   | nil=>rfl
   | cons _ _=>exact hb.elim
  | cons b l ih=>cases r with
   | nil=>exact hb.elim
   | cons x r=>rw[List.all_cons,hb.1.lt,ih r hb.2];rfl
end
end
section
section
variable {P:Program} {F:Cal} {σ:List E} {s:S} {t:St} {y:Out} {nb:Nat}
def X.ex:X→Exit
 | .normal => .normal
 | .ret => .ret
 | .exit i => .exit i
theorem zM3 {a:RCode} (ha:∀ {σ:List E} {s:S} {t:St} {K:X→S→R},zm4 F nb a s K=some y→SR σ s t→∀ {Q:Exit→St→Prop},(∀ e σ' s' t',Ext σ t σ' t'→SR σ' s' t'→K e s'=some y→Q (X.ex e) t')→vc P a Q t)
  {K:X→S→R} {n:Nat} (h:zB3 (zm4 F nb a) n s K=some y) (hr:SR σ s t) {Q:Exit→St→Prop} (hk:∀ e σ' s' t',Ext σ t σ' t'→SR σ' s' t'→K e s'=some y→Q (X.ex e) t'):ziE (vc P a) Q t:=by
 left
 refine⟨fun m u=>∃ σ' s',Ext σ t σ' u∧SR σ' s' u∧zB3 (zm4 F nb a) m s' K=some y,?_,?_⟩
 ·obtain⟨t',h1,h2,h3⟩:=zKy hr
  exact⟨n,t',⟨σ,s,⟨⟨[],by simp⟩,by rw[h3];exact Nat.le_refl _⟩,h1,h⟩,h2⟩
 ·rintro m u ⟨σ',s',hx,hr',hm⟩
  cases m with
  | zero=>cases hm
  | succ m=>
   have hm':zm4 F nb a s' (fun e s''=>X.rec (zB3 (zm4 F nb a) m s'' K) (K .ret s'') (fun i=>K (.exit i) s'') e)=some y:=hm
   refine ha hm' hr' fun e σ'' s'' t'' hx' hr'' h1=>?_
   cases e with
   | normal=>
    obtain⟨t3,h2,h3,h4⟩:=zKy hr''
    exact⟨m,t3,Nat.lt_succ_self _,⟨σ'',s'',⟨(hx.trans hx').σ,by rw[h4];exact(hx.trans hx').bx⟩,h2,h1⟩,h3⟩
   | ret=>exact hk .ret σ'' s'' t'' (hx.trans hx') hr'' h1
   | exit i=>exact hk (.exit i) σ'' s'' t'' (hx.trans hx') hr'' h1
theorem znI (hF:FOk P F) (N:Nat):∀ (c:RCode) {σ:List E} {s:S} {t:St} {K:X→S→R},zm4 F N c s K=some y→SR σ s t→∀ {Q:Exit→St→Prop},(∀ e σ' s' t',Ext σ t σ' t'→SR σ' s' t'→K e s'=some y→Q (X.ex e) t')→vc P c Q t
 | .skip,σ,s,t,K,h,hr,Q,hk=>hk .normal σ s t Ext.rfl' hr h
 | .draw tr kl,σ,s,t,K,h,hr,Q,hk=>by
  cases kl with
  | cons _ _=>cases h
  | nil=>
   have h':(zB2 F tr s fun s'=>s'.cut fun s''=>K .normal s'')=some y:=h
   refine zLE hF h' hr fun σ' s' t' hx hr' h1=>?_
   obtain⟨s'',h2,h3⟩:=zFx h1 hr'
   rw[zmO]
   exact hk .normal σ' s'' t' hx h3 h2
 | .ops l kl,σ,s,t,K,h,hr,Q,hk=>by
  cases kl with
  | cons _ _=>cases h
  | nil=>
   have h':(ops F l s fun s'=>s'.cut fun s''=>K .normal s'')=some y:=h
   refine zKv hF h' hr fun σ' s' t' hx hr' h1=>?_
   obtain⟨s'',h2,h3⟩:=zFx h1 hr'
   rw[zmO]
   exact hk .normal σ' s'' t' hx h3 h2
 | .seq a b,σ,s,t,K,h,hr,Q,hk=>by
  have h':zm4 F N a s (fun e s'=>X.rec (zm4 F N b s' K) (K .ret s') (fun i=>K (.exit i) s') e)=some y:=h
  refine znI hF N a h' hr fun e σ' s' t' hx hr' h1=>?_
  cases e with
  | normal=>exact znI hF N b h1 hr' fun e σ'' s'' t'' hx' hr'' h2=>hk e σ'' s'' t'' (hx.trans hx') hr'' h2
  | ret=>exact hk .ret σ' s' t' hx hr' h1
  | exit i=>exact hk (.exit i) σ' s' t' hx hr' h1
 | .cond c a b,σ,s,t,K,h,hr,Q,hk=>by
  have h':(evB s c fun t=>Bool.rec (zm4 F N b s K) (zm4 F N a s K) t)=some y:=h
  exact zD h' hr.fr fun v sv _ hv h1=>zFr h1 hv (fun h2=>znI hF N a h2 hr hk) (fun h2=>znI hF N b h2 hr hk)
 | .block id a,σ,s,t,K,h,hr,Q,hk=>by
  have h':zm4 F N a s (fun e s'=>X.rec (K .normal s') (K .ret s') (fun i=>Bool.rec (K (.exit i) s') (K .normal s') (Nat.beq i id)) e)=some y:=h
  refine znI hF N a h' hr fun e σ' s' t' hx hr' h1=>?_
  cases e with
  | normal=>exact hk .normal σ' s' t' hx hr' h1
  | ret=>exact hk .ret σ' s' t' hx hr' h1
  | exit i=>
   show (match Nat.beq i id with|true=>Q .normal t'|false=>Q (.exit i) t')
   replace h1:(Bool.rec (K (.exit i) s') (K .normal s') (Nat.beq i id):R)=some y:=h1
   cases hb:Nat.beq i id with
   | true=>rw[hb] at h1;exact hk .normal σ' s' t' hx hr' h1
   | false=>rw[hb] at h1;exact hk (.exit i) σ' s' t' hx hr' h1
 | .loop a,σ,s,t,K,h,hr,Q,hk=>zM3 (fun h hr _ hk=>znI hF N a h hr hk) h hr hk
 | .exit id,σ,s,t,K,h,hr,Q,hk=>hk (.exit id) σ s t Ext.rfl' hr h
 | .ret,σ,s,t,K,h,hr,Q,hk=>hk .ret σ s t Ext.rfl' hr h
 | .scope a,σ,s,t,K,h,hr,Q,hk=>by
  refine znI hF N a h hr fun e σ' s' t' hx hr' h1=>?_
  cases e with
  | normal=>exact hk .normal σ' s' t' hx hr' h1
  | ret=>exact hk .ret σ' s' t' hx hr' h1
  | exit i=>exact hk (.exit i) σ' s' t' hx hr' h1
 | .rfun _ _ _ _,σ,s,t,K,h,hr,Q,hk=>by cases h
theorem zM4 {r:zd} {K:W→S→R} (h:zMM r s K=some y) (hr:SR σ s t) {k:Value→St→Prop} (hk:∀ σ' w u s' t',Ext σ t σ' t'→SR σ' s' t'→WR σ' w u→K w s'=some y→k u t'):zyu r t k:=by
 cases r with
 | tmp d=>
  have h':(ev s (.tmp d) fun v=>shal v s K)=some y:=h
  exact zD h' hr.fr fun v sv _ hv h1=>znF h1 hr hv hk
 | cell g n d=>
  have h':(evP s (.tmp d) (fun _ o cs=>takeC cs o n fun l=>mkv g l fun v=>shal v s K) (fun a o=>cB (Nat.blt 0 n) (row s a o n fun l=>mkv g l fun v=>shal v s K) fail))=some y:=h
  refine zuJ h' hr.fr hr.bx (fun j o T l cs _ _ hl h1=>?_) (fun a o e he h1=>?_)
  ·obtain⟨h2,h3⟩:=zrl h1
   rw[zsm (by rw[←hl.len];exact h2)]
   exact zuK h3 ((hl.drop o).take n) fun v sv hv h4=>znF h4 hr hv hk
  ·obtain⟨h2,h3⟩:=zn h1
   obtain⟨l,vs,e',h4,h5,h6,h7,h8⟩:=zzz h3 hr.q
   rw[he] at h4;cases h4
   rcases h8 with rfl|h8
   ·cases h2
   ·rw[h8]
    exact zuK h7 (h6.sc _) fun v sv hv h9=>znF h9 hr hv hk
theorem zHV:∀ {rs:List zd} {σ:List E} {s:S} {t:St} {K:List W→S→R},zxP rs s K=some y→SR σ s t→∀ {k:List Value→St→Prop},(∀ σ' ws us s' t',Ext σ t σ' t'→SR σ' s' t'→All2 (WR σ') ws us→K ws s'=some y→k us t')→zBY rs t k
 | [],σ,s,t,K,h,hr,k,hk=>hk σ [] [] s t Ext.rfl' hr trivial h
 | r::rs,σ,s,t,K,h,hr,k,hk=>by
  refine zM4 (K:=fun w s'=>zxP rs s' fun ws s''=>K (w::ws) s'') h hr fun σ' w u s' t' hx hr' hw h1=>?_
  exact zHV h1 hr' fun σ'' ws us s'' t'' hx' hr'' hws h2=>hk σ'' (w::ws) (u::us) s'' t'' (hx.trans hx') hr'' ⟨hw.ext hx',hws⟩ h2
theorem zDc {v:V} (h:zIB v s=some y):y = .rt v s.n s.H:=by
 obtain⟨nl,tl,L,bx,n,H,g⟩:=s
 exact(Option.some.inj h).symm
theorem OVR.ofW {w:W} {u:Value} (h:WR σ w u):OVR σ (V.ofW w) u:=by cases w<;>exact h
theorem zNS {ws:List W} {us:List Value} (h:zAy ws s=some y) (hr:SR σ s t) (hws:All2 (WR σ) ws us) {v:V} {n':Nat} {H':T O} (hy:y = .rt v n' H'):zL6 us t fun u M'=>σ.length=n'∧OVR σ v u∧HR σ H' M':=by
 obtain⟨fr,bx,M⟩:=t
 match ws,us,hws with
 | [w],[u],hws=>
  have:=zDc (v:=V.ofW w) h
  rw[hy] at this
  cases this
  exact⟨hr.n.symm,OVR.ofW hws.1,hr.h⟩
 | [],[],_=>
  have:=zDc (v := .tp []) h
  rw[hy] at this
  cases this
  exact⟨hr.n.symm,⟨[],trivial,rfl⟩,hr.h⟩
 | w::w'::ws,u::u'::us,hws=>
  have:=zDc (v := .tp (w::w'::ws)) h
  rw[hy] at this
  cases this
  exact⟨hr.n.symm,⟨_,hws,rfl⟩,hr.h⟩
 | [_],_::_::_,h=>exact h.2.elim
 | _::_::_,[_],h=>exact h.2.elim
theorem zEr:∀ (n:Nat) (K:List (Option V)→R),zIC n K=K (List.replicate n none)
 | 0,_=>rfl
 | n+1,K=>zEr n fun r=>K (none::r)
theorem zHW:∀ {ws:List W} {L:List (Option V)} {K:List (Option V)→R},zID ws L K=some y→ws.length≤L.length∧K (ws.map (fun w=>some (V.ofW w))++L.drop ws.length)=some y
 | [],_,_,h=>⟨Nat.zero_le _,h⟩
 | _::_,[],_,h=>by cases h
 | w::ws,a::L,K,h=>by
  obtain⟨h1,h2⟩:=zHW (ws:=ws) (L:=L) (K:=fun r=>K (some (V.ofW w)::r)) h
  exact⟨Nat.succ_le_succ h1,h2⟩
theorem args0_lk:∀ {vs:List Value} {i d:Nat} {v:Value},vs[d]? = some v→lk (zn8 i vs) (i+d)=some (zeK v)
 | v::vs,i,0,u,h=>by
  show lk ((i,zeK v)::zn8 (i+1) vs) (i+0)=_
  rw[zo3,if_pos (by simp)]
  simp at h;rw[h]
 | v::vs,i,d+1,u,h=>by
  show lk ((i,zeK v)::zn8 (i+1) vs) (i+(d+1))=_
  rw[zo3,if_neg (by omega),show i+(d+1)=i+1+d by omega]
  exact args0_lk (by simpa using h)
 | [],_,_,_,h=>by simp at h
theorem zM5 (hF:FOk P F) {N:Nat} {f:FC} {ws:List W} {n:Nat} {H:T O} (h:body F N f ws n H=some y) {v:V} {n':Nat} {H':T O} (hy:y = .rt v n' H') {σ:List E} {M:Mem} {vs:List Value} (hn:σ.length=n) (hh:HR σ H M) (hws:All2 (WR σ) ws vs) :
  ws.length≤f.nl∧zj P f.c f.rs vs M fun u M'=>∃ τ,(σ++τ).length=n'∧OVR (σ++τ) v u∧HR (σ++τ) H' M':=by
 obtain⟨nl,c,rs⟩:=f
 have h':(zIC nl fun L=>zID ws L fun L'=>zm4 F N c ⟨nl,[],L',[],n,H,none⟩ fun e s=>X.rec (zxP rs s zAy) (zxP rs s zAy) (fun _=>fail) e)=some y:=h
 rw[zEr] at h'
 obtain⟨h1,h2⟩:=zHW h'
 rw[List.length_replicate] at h1
 refine⟨h1,?_⟩
 show zS _ _
 rw[zE]
 have hs:SR σ ⟨nl,[],ws.map (fun w=>some (V.ofW w))++(List.replicate nl none).drop ws.length,[],n,H,none⟩ ⟨zn8 0 vs,[],M⟩:=by
  refine⟨hn.symm,fun d u hd=>?_,trivial,hh⟩
  rw[zjI] at hd
  split at hd
  ·cases hd
  ·by_cases hdl:d<ws.length
   ·rw[List.getElem?_append_left (by simpa using hdl),List.getElem?_map] at hd
    obtain⟨w,hw⟩:∃ w,ws[d]? = some w:=⟨_,List.getElem?_eq_getElem hdl⟩
    rw[hw] at hd
    simp at hd
    subst hd
    obtain⟨u,hu,hwu⟩:=hws.at_ hw
    refine⟨by cases w<;>simp[V.ofW],zeK u,?_,zuI hwu⟩
    have:=args0_lk (i:=0) hu
    rwa [Nat.zero_add] at this
   ·rw[List.getElem?_append_right (by simpa using hdl)] at hd
    simp only[List.length_map,List.getElem?_drop,List.getElem?_replicate] at hd
    split at hd<;>simp at hd
 refine znI hF N c h2 hs fun e σ' s' t' hx hr' h3=>?_
 have fin:zxP rs s' zAy=some y→zB9 rs t' fun u M'=>∃ τ,(σ++τ).length=n'∧OVR (σ++τ) v u∧HR (σ++τ) H' M':=fun h4=>by
  refine zHV h4 hr' fun σ'' ws' us s'' t'' hx' hr'' hws' h5=>?_
  have:=zNS h5 hr'' hws' hy
  obtain⟨τ,rfl⟩:=(hx.trans hx').σ
  obtain⟨fr,bx,M2⟩:=t''
  match us,this with
  | [u],this=>exact⟨τ,this⟩
  | [],this=>exact⟨τ,this⟩
  | _::_::_,this=>exact⟨τ,this⟩
 cases e with
 | normal=>exact fin h3
 | ret=>exact fin h3
 | exit i=>cases h3
def Prim (P:Program) (g:Nat) (p:List W→Nat→T O→R):Prop:=∀ {ws:List W} {n:Nat} {H:T O} {v:V} {n':Nat} {H':T O},p ws n H=some (.rt v n' H') →
 ∀ {σ:List E} {M:Mem} {vs:List Value},σ.length=n→HR σ H M→All2 (WR σ) ws vs→CallsM P g vs M fun u M'=>∃ τ,(σ++τ).length=n'∧OVR (σ++τ) v u∧HR (σ++τ) H' M'
theorem zKz {prim:T (List W→Nat→T O→R)} {tab:T FC} {N:Nat} (hp:∀ g p,prim.get g=some p→Prim P g p) (htab:∀ g f,tab.get g=some f→∀ {args:List Value} {M:Mem} {R:Value→Mem→Prop},args.length≤f.nl→zj P f.c f.rs args M R→CallsM P g args M R):∀ d,FOk P (run prim tab N d)
 | 0=>fun h _ _ _ _=>by cases h
 | d+1=>by
  intro h v n' H' hy σ M vs hn hh hws
  rename_i g ws n H y
  have h':(Option.rec (oV (tab.get g) fun f=>body (run prim tab N d) N f ws n H) (fun p=>p ws n H) (prim.get g):R)=some y:=h
  cases hg:prim.get g with
  | some p=>
   rw[hg] at h'
   subst hy
   exact hp g p hg h' hn hh hws
  | none=>
   rw[hg] at h'
   obtain⟨f,h1,h2⟩:=zhV (K:=fun f=>body (run prim tab N d) N f ws n H) h'
   obtain⟨h3,h4⟩:=zM5 (zKz hp htab d) h2 hy hn hh hws
   exact htab _ f h1 (by rw[←hws.len];exact h3) h4
end
def T.All {α:Type} (p:Nat→α→Prop):T α→Prop
 | .e=>True
 | .n l v r=>(∀ x,v=some x→p 0 x)∧l.All (fun k x=>p (2*k+1) x)∧r.All (fun k x=>p (2*k+2) x)
theorem T.All.get {α:Type}:∀ {t:T α} {p:Nat→α→Prop},t.All p→∀ {k:Nat} {x:α},t.get k=some x→p k x
 | .e,_,_,_,_,h=>by cases h
 | .n l v r,p,ha,0,x,h=>ha.1 x h
 | .n l v r,p,ha,m+1,x,h=>by
  rw[T.get_1] at h
  split at h
  ·rename_i hm
   have hm':m % 2=1:=Nat.eq_of_beq_eq_true hm
   have:=ha.2.2.get h
   rwa [show 2*(m / 2)+2=m+1 by omega] at this
  ·rename_i hm
   have hm':m % 2≠1:=fun e=>by rw[e] at hm;exact hm rfl
   have:=ha.2.1.get h
   rwa [show 2*(m / 2)+1=m+1 by omega] at this
theorem T.All.nil {α:Type} {p:Nat→α→Prop}:(T.e:T α).All p:=trivial
theorem T.All.no {α:Type} {p:Nat→α→Prop} {l r:T α} (hl:l.All fun k x=>p (2*k+1) x) (hr:r.All fun k x=>p (2*k+2) x):(T.n l none r).All p:=⟨fun _ h=>(by cases h),hl,hr⟩
theorem T.All.at {α:Type} {p:Nat→α→Prop} {l r:T α} {x:α} (hx:p 0 x) (hl:l.All fun k x=>p (2*k+1) x) (hr:r.All fun k x=>p (2*k+2) x):(T.n l (some x) r).All p:=⟨fun _ h=>(by cases h;exact hx),hl,hr⟩
def Worth (P:Program) (g:Nat) (f:FC):Prop:=∀ {args:List Value} {M:Mem} {R:Value→Mem→Prop},args.length≤f.nl→zj P f.c f.rs args M R→CallsM P g args M R
theorem run_ok {P:Program} {prim:T (List W→Nat→T O→R)} {tab:T FC} (hp:prim.All (Prim P)) (h:tab.All (Worth P)) (N d:Nat):FOk P (run prim tab N d):=zKz (fun g p hg=>T.All.get hp hg) (fun g f hg=>T.All.get h hg) d
end
end Go.Vm.Rn
namespace Go.Proofs.YtdgikhhkgnjalaaGreat
open Go Go.Vm
attribute [local irreducible] Brn Ob Grow CallsM inR ziE zfC Mem.row Mem.cells Mem.setCells Mem.upd Go.Vm.Own zi5 zn6 zna zkg New SrcOk zap NewSl Mem.textAt Mem.mapAt Mem.iterAt zd0 kfind Wr znA Elems
set_option maxRecDepth 10000
variable {M:Mem}
def zM6:Rn.T Rn.FC := .n (.e) none (.n (.n (.n (.n (.e) none (.n (.n (.n (.n (.e) (some ⟨3,zeG,zeH⟩) (.e)) none (.e)) none (.e)) none (.e))) none (.n (.e) none (.n (.n (.e) none (.n (.n (.e) (some ⟨9,zms,zmt⟩) (.e)) none (.e))) none (.e)))) none (.e)) none (.e))
theorem zDd:Rn.Worth Tryz.prog F.zcf ⟨9,zms,zmt⟩:=fun hn h=>zBF (Nat.le_trans hn (by decide)) h
theorem zqk:Rn.Worth Tryz.prog F.zC ⟨3,zeG,zeH⟩:=fun hn h=>zxG (Nat.le_trans hn (by decide)) h
theorem zLF:Rn.T.All (Rn.Worth Tryz.prog) zM6 := .no (.nil) (.no (.no (.no (.no (.nil) (.no (.no (.no (.at zqk (.nil) (.nil)) (.nil)) (.nil)) (.nil))) (.no (.nil) (.no (.no (.nil) (.no (.at zDd (.nil) (.nil)) (.nil))) (.nil)))) (.nil)) (.nil))
noncomputable def zM7:Rn.R:=Rn.run .e zM6 10 3 F.zcf [.c .nl] 0 .e
noncomputable def isF (c:Rn.C):Bool:=match c with | .t false=>true|_=>false
noncomputable def zKA (r:Rn.R):Bool:=match r with|some (.rt (.ag l) _ _)=>Nat.beq l.length 128&&l.all isF|_=>false
theorem zHX:zKA zM7=true:=by kernel_rfl
theorem zHY {l:List Rn.C} {σ:List Rn.E} {vs:List Value} (hl:l.all isF=true) (h:Rn.All2 (Rn.CR σ) l vs):vs=List.replicate l.length (.bool false):=by
 induction l generalizing vs with
 | nil=>cases vs with
  | nil=>rfl
  | cons _ _=>exact h.elim
 | cons c l ih=>cases vs with
  | nil=>exact h.elim
  | cons v vs=>
   rw[List.all_cons,Bool.and_eq_true] at hl
   rw[ih hl.2 h.2,List.length_cons,List.replicate_succ]
   have hc:=hl.1
   unfold isF at hc
   split at hc
   ·have h1:some (Value.bool false)=some v:=h.1
    cases h1;rfl
   ·cases hc
theorem has_nil:CallsM Tryz.prog F.zcf [.slice none 0 0] M fun v M'=>v = .agg (List.replicate 128 (.bool false)).toArray∧M.le M':=by
 have h1:CallsM Tryz.prog F.zcf [.slice none 0 0] Mem.empty fun v _=>v = .agg (List.replicate 128 (.bool false)).toArray:=by
  have hk:=zHX
  unfold zKA at hk
  split at hk
  ·rename_i l n H hr
   have:=Rn.run_ok (P:=Tryz.prog) (prim := .e) trivial zLF 10 3 hr rfl (σ:=[]) (M:=Mem.empty) (vs:=[.slice none 0 0]) rfl ⟨fun _ _ h=>(by cases h),fun _ _ _ _ _ _ h=>(by cases h)⟩ ⟨rfl,trivial⟩
   refine this.mono ?_
   rintro v M' ⟨τ, -, h2, -⟩
   obtain⟨vs,h3,rfl⟩:=h2
   rw[Bool.and_eq_true] at hk
   rw[zHY hk.2 h3,Nat.eq_of_beq_eq_true hk.1]
  ·cases hk
 refine(h1.frame (Mem.empty_le M)).mono ?_
 rintro v M' ⟨A',rfl, -, h2⟩
 exact⟨rfl,fun b o hb=>(h2 b o rfl hb).1⟩
theorem zIN (base:Int):CallsM Tryz.prog F.zkB [.int .i64 base,.slice none 0 0] M fun v M'=>v = .slice none 0 0∧M.le M':=by
 refine zz3 (by simp) ?_
 refine zR ?_
 refine has_nil.mono ?_
 rintro v M1 ⟨rfl,hle1⟩
 refine zR ?_
 refine(zD7 base 128).mono ?_
 rintro v M2 ⟨B1,B2,rfl,hB1,hB2,hle2⟩
 (conv=>whnf);refine⟨rfl,?_⟩
 (conv=>whnf);refine new (fun b0 hb0=>?_)
 replace hb0:M2 b0=none:=hb0
 (conv=>whnf);refine new (fun b1 hb1=>?_)
 replace hb1:(M2.setCells b0 T.zbV (List.replicate 128 (.bool false))) b1=none:=hb1
 have hne:b1≠b0:=fun e=>by
  rw[e] at hb1
  have h1:=Mem.has_setCells (M:=M2) (b:=b0) (E:=T.zbV) (l:=List.replicate 128 (.bool false))
  unfold Mem.has at h1;rw[h1] at hb1;cases hb1
 have hle3:M2.le (M2.setCells b0 T.zbV (List.replicate 128 (.bool false))):=Mem.le_setCells hb0
 have hle4:(M2.setCells b0 T.zbV (List.replicate 128 (.bool false))).le ((M2.setCells b0 T.zbV (List.replicate 128 (.bool false))).setCells b1 T.zbR [.slice none 0 0]):=Mem.le_setCells hb1
 have h1b0:=Mem.has.le hle4 (Mem.has_setCells (M:=M2) (b:=b0) (E:=T.zbV) (l:=List.replicate 128 (.bool false)))
 have h1b1:=Mem.has_setCells (M:=M2.setCells b0 T.zbV (List.replicate 128 (.bool false))) (b:=b1) (E:=T.zbR) (l:=[.slice none 0 0])
 have hb21:M2 b1=none:=by
  cases e:M2 b1 with
  | none=>rfl
  | some o=>rw[hle3 _ _ e] at hb1;cases hb1
 obtain⟨M3,hM3⟩:∃ M3,M3=(M2.setCells b0 T.zbV (List.replicate 128 (.bool false))).setCells b1 T.zbR [.slice none 0 0]:=⟨_,rfl⟩
 rw[←hM3] at hle4 h1b1 h1b0
 obtain⟨M0,hM0⟩:∃ M0:Mem,M0=M3.minus (fun y=>y≠b1∧y≠b0):=⟨_,rfl⟩
 have h01:M0 b1=M3 b1:=by rw[hM0];unfold Mem.minus;rw[if_neg (by simp)]
 have h02:M0 b0=M3 b0:=by rw[hM0];unfold Mem.minus;rw[if_neg (by simp)]
 (conv=>whnf)
 erw [←hM3]
 refine zHb (zD4 (A:=M2) hB1 hB2 (by omega)) (by kernel_rfl) rfl (Mem.le_trans hle3 hle4) (fun _=>rfl) (fun _ Mb=>Mb.has b1 T.zbR [.slice none 0 0]∧Mb.has b0 T.zbV (List.replicate 128 (.bool false))) M0 (hM0▸Mem.minus_le _ _) (fun b hb=>?_) ⟨?_,?_⟩ ?_ ?_
 ·rw[hM0]
  refine Mem.minus_in ⟨fun e=>?_,fun e=>?_⟩
  ·rw[e] at hb;exact hb hb21
  ·rw[e] at hb;exact hb hb0
 ·unfold Mem.has at h1b1 ⊢; rw[h01];exact h1b1
 ·unfold Mem.has at h1b0 ⊢; rw[h02];exact h1b0
 ·rintro pre x Mb Mx Mc ⟨ho1,ho2⟩ hlt ⟨hx1,hx2⟩ hfr hle5 hle6
  have g1:=Mem.has.le hle5 ho1
  have g2:=Mem.has.le hle5 ho2
  refine zR ?_
  refine⟨rfl,?_⟩
  refine zR ?_
  refine ob ⟨by omega,by omega⟩ ?_
  refine zR ?_
  refine on (g2.c1 (v := .bool false) ?_) ?_
  ·rw[List.getElem?_replicate,if_pos (by omega)]
  (conv=>whnf)
  exact⟨rfl,Mc,⟨g1,g2⟩,Mem.le_refl _⟩
 ·rintro xs Mb Mc hD ⟨ho1,ho2⟩ hdj hle5 hle6
  have g1:=Mem.has.le hle5 ho1
  refine zR ?_
  refine on (g1.c1 rfl) ?_
  refine zR ?_
  exact⟨rfl,Mem.le_trans (Mem.le_trans hle1 hle2) hle6⟩
end Go.Proofs.YtdgikhhkgnjalaaGreat
namespace Go.Vm.Rn
open Go.Vm
set_option linter.unusedVariables false
noncomputable def zFA (H:T O) (k:Nat) (v:Option O):Bool:=match v with|none=>true|some o=>(match H.get k with|some o'=>o.eqb o'|none=>false)
noncomputable def T.sub (a:T O) (H:T O):(Nat→Nat)→Bool:=
 T.rec (fun _=>true) (fun _ v _ il ir w=>zB (zFA H (w 0) v) (zB (il fun k=>w (2*k+1)) (ir fun k=>w (2*k+2)))) a
structure Stg where
 n:Nat
 H:T O
 v:V
 n':Nat
 H':T O
noncomputable def Stg.ok (F:List W→Nat→T O→R) (ws:List W) (g:Stg):Bool:=match F ws g.n g.H with|some (.rt v n' H')=>zB (v.eqb g.v) (zB (Nat.beq n' g.n') (g.H'.sub H' id))|_=>false
noncomputable def T.ofs (H:T O) (l:List (Nat×Option O)):T O:=List.rec (fun H=>H) (fun p _ ih H=>Prod.rec (fun k o=>H.set k o ih) p) l H
@[reducible] def Q.i (x:Nat):C := .n .i64 (.ofNat x)
@[reducible] def Q.u (x:Nat):C := .n .u8 (.ofNat x)
noncomputable def zrq (ws:List W):List Stg→List W→Nat→T O→R
 | [],_,_,_=>fail
 | g::gs,us,n,H=>Bool.rec (zrq ws gs us n H) (cB (zB (zqQ W.eqb ws us) (g.H.sub H id)) (some (.rt g.v g.n' g.H')) fail) (Nat.beq n g.n)
theorem T.zrr {H:T O}:∀ {a:T O} {w:Nat→Nat},a.sub H w=true→∀ {k:Nat} {o:O},a.get k=some o→H.get (w k)=some o
 | .e,_,_,_,_,h=>by cases h
 | .n l v r,w,h,0,o,hk=>by
  have h':zB (zFA H (w 0) v) (zB (l.sub H fun k=>w (2*k+1)) (r.sub H fun k=>w (2*k+2)))=true:=h
  obtain⟨h1, -⟩:=zr h'
  have hv:v=some o:=hk
  subst hv
  unfold zFA at h1
  dsimp only at h1
  split at h1
  ·rename_i o' hg;rw[hg,O.eqb_s h1]
  ·cases h1
 | .n l v r,w,h,m+1,o,hk=>by
  have h':zB (zFA H (w 0) v) (zB (l.sub H fun k=>w (2*k+1)) (r.sub H fun k=>w (2*k+2)))=true:=h
  obtain⟨-, h1⟩:=zr h'
  obtain⟨h2,h3⟩:=zr h1
  rw[T.get_1] at hk
  split at hk
  ·rename_i hm
   have hm':m % 2=1:=Nat.eq_of_beq_eq_true hm
   have:=T.zrr h3 hk
   rwa [show 2*(m / 2)+2=m+1 by omega] at this
  ·rename_i hm
   have hm':m % 2≠1:=fun e=>by rw[e] at hm;exact hm rfl
   have:=T.zrr h2 hk
   rwa [show 2*(m / 2)+1=m+1 by omega] at this
theorem HR.sub {σ:List E} {H a:T O} {M:Mem} (h:HR σ H M) (ha:a.sub H id=true):HR σ a M:=
 ⟨fun k o hk=>h.has k o (T.zrr ha hk),fun k k' o o' e e' hk hk'=>h.inj k k' o o' e e' (T.zrr ha hk) (T.zrr ha hk')⟩
theorem zsq {P:Program} {F:Cal} (hF:FOk P F) {g:Nat} {ws:List W}:∀ {l:List Stg},(∀ s∈l,s.ok (F g) ws=true)→Prim P g (zrq ws l)
 | [],_=>by intro h;cases h
 | s::l,hl=>by
  intro h σ M vs hn hh hvs
  rename_i us n H v n' H'
  have h':(Bool.rec (zrq ws l us n H) (cB (zB (zqQ W.eqb ws us) (s.H.sub H id)) (some (.rt s.v s.n' s.H')) fail) (Nat.beq n s.n):R)=some (.rt v n' H'):=h
  cases hb:Nat.beq n s.n with
  | false=>
   rw[hb] at h'
   exact zsq hF (fun x hx=>hl x (List.mem_cons_of_mem _ hx)) h' hn hh hvs
  | true=>
   rw[hb] at h'
   obtain⟨h1,h2⟩:=zn h'
   obtain⟨h3,h4⟩:=zr h1
   have e1:=znH (fun _ _=>W.eqb_s) h3
   have e2:=zw hb
   subst e1 e2
   cases h2
   have hs:=hl s (by simp)
   unfold Stg.ok at hs
   split at hs
   ·rename_i v2 n2 H2 hr
    obtain⟨h5,h6⟩:=zr hs
    obtain⟨h7,h8⟩:=zr h6
    have e3:=V.eqb_s h5
    have e4:=zw h7
    subst e3 e4
    refine CallsM.mono (hF hr rfl hn (hh.sub h4) hvs) ?_
    rintro u M' ⟨τ,h9,h10,h11⟩
    exact⟨τ,h9,h10,h11.sub h8⟩
   ·cases hs
noncomputable def orP (p q:List W→Nat→T O→R) (ws:List W) (n:Nat) (H:T O):R:=Option.rec (q ws n H) (fun y=>some y) (p ws n H)
theorem zNT {P:Program} {g:Nat} {p q:List W→Nat→T O→R} (hp:Prim P g p) (hq:Prim P g q):Prim P g (orP p q):=by
 intro ws n H v n' H' h
 unfold orP at h
 cases hx:p ws n H with
 | none=>rw[hx] at h;exact hq h
 | some y=>rw[hx] at h;exact hp (hx.trans h)
theorem all_cons {p:Stg→Prop} {x:Stg} {l:List Stg} (h:p x) (t:∀ s∈l,p s):∀ s∈x::l,p s:=fun s hs=>by
 cases hs with
 | head=>exact h
 | tail _ hs=>exact t s hs
theorem zAI {p:Stg→Prop}:∀ s∈([]:List Stg),p s:=fun s hs=>by cases hs
end Go.Vm.Rn
namespace Go.Proofs.YtdgikhhkgnjalaaGreat
open Go Go.Vm
attribute [local irreducible] Brn Ob Grow CallsM inR ziE zfC Mem.row Mem.cells Mem.setCells Mem.upd Go.Vm.Own zi5 zn6 zna zkg New SrcOk zap NewSl Mem.textAt Mem.mapAt Mem.iterAt zd0 kfind Wr znA Elems
set_option maxRecDepth 10000
variable {M:Mem}
theorem zFB {σ:List Rn.E} {H:Rn.T Rn.O} {M M':Mem} (h:Rn.HR σ H M) (hle:M.le M'):Rn.HR σ H M':=
 ⟨fun a o ha=>by
  obtain⟨e,h1,h2⟩:=h.has a o ha
  refine⟨e,h1,h2.frame fun hn=>?_⟩
  obtain⟨ob,h3⟩:=h2.some hn
  rw[h3];exact hle _ _ h3,h.inj⟩
def zsr (ws:List Rn.W) (n:Nat) (H:Rn.T Rn.O):Rn.R:=match ws with
 | [.c (.n .i64 _),.c .nl]=>some (.rt (.c .nl) n H)
 | _=>none
theorem zwE:Rn.Prim Tryz.prog F.zkB zsr:=by
 intro ws n H v n' H' h σ M vs hn hh hvs
 unfold zsr at h
 split at h
 ·rename_i b
  cases h
  match vs,hvs with
  | [v1,v2],hvs=>
   have e1:some (Value.int .i64 b)=some v1:=hvs.1
   have e2:some (Value.slice none 0 0)=some v2:=hvs.2.1
   cases e1;cases e2
   refine(zIN b).mono ?_
   rintro u M' ⟨rfl,hle⟩
   exact⟨[],by simpa using hn,by simp[Rn.OVR,Rn.CR,Rn.C.val],by simpa using zFB hh hle⟩
  | [_],hvs=>exact hvs.2.elim
  | _::_::_::_,hvs=>exact hvs.2.2.elim
 ·cases h
noncomputable def zql (ws:List Rn.W) (n:Nat) (H:Rn.T Rn.O):Rn.R:=match ws with
 | [.c .np]=>some (.rt (.c .nl) n H)
 | [.c (.p a 0)]=>(match H.get a with
  | some (.row E [_,.n .i64 base,_,.n .i64 un])=>if E=T.zma ∧ -9223372036854775808≤un∧un<9223372036854775808 then (match z9 un with
   | 0=>some (.rt (.c .nl) n H)
   | k+1=>H.set n (some (.gr T.int 1 ((zbz base (k+1)).map (Rn.C.n .i64)))) fun H'=>Rn.fN (fun n'=>some (.rt (.c (.g n 0 0 (k+1))) n' H')) (n+1)) else none
  | _=>none)
 | _=>none
theorem zDe (base:Int) (n:Nat):(zbz base n).length=n:=by simp[zbz]
theorem zNa {σ:List Rn.E} (l:List Int):Rn.All2 (Rn.CR σ) (l.map (Rn.C.n .i64)) (l.map (Value.int .i64)):=by
 induction l with
 | nil=>trivial
 | cons x l ih=>exact⟨rfl,ih⟩
theorem zup:Rn.Prim Tryz.prog F.zaE zql:=by
 intro ws n H v n' H' h σ M vs hn hh hvs
 unfold zql at h
 split at h
 ·cases h
  match vs,hvs with
  | [v1],hvs=>
   have e1:some (Value.pointer none)=some v1:=hvs.1
   cases e1
   refine under_nil.mono ?_
   rintro u M' ⟨rfl,rfl⟩
   exact⟨[],by simpa using hn,by simp[Rn.OVR,Rn.CR,Rn.C.val],by simpa using hh⟩
  | _::_::_,hvs=>exact hvs.2.elim
 ·rename_i a
  split at h
  ·rename_i E c0 base c2 un hg
   split at h
   ·rename_i hc
    obtain⟨hE,hu⟩:=hc
    subst hE
    match vs,hvs with
    | [v1],hvs=>
     obtain⟨e,he,ho⟩:=hh.has a _ hg
     have h1:=hvs.1
     simp only[Rn.WR,Rn.CR,Rn.C.val,he,Option.map_some,Option.some.injEq] at h1
     subst h1
     obtain⟨h0,us,h2,h3⟩:=ho
     match us,h2 with
     | [w0,w1,w2,w3],h2=>
      have e1:some (Value.int .i64 base)=some w1:=h2.2.1
      have e3:some (Value.int .i64 un)=some w3:=h2.2.2.2.1
      cases e1;cases e3
      have hM:M.has e.addr T.zma [w0,.int .i64 base,w2,.int .i64 un]:=h3
      refine(zIp hM hu).mono ?_
      rintro u M' ⟨q,c,rfl,hN,hnil⟩
      rw[zDe] at hN ⊢
      cases hk:z9 un with
      | zero=>
       rw[hk] at h
       cases h
       obtain⟨rfl,rfl⟩:=hnil (List.length_eq_zero_iff.1 (by rw[zDe,hk]))
       exact⟨[],by simpa using hn,by simp[Rn.OVR,Rn.CR,Rn.C.val],by simpa using zFB hh hN.le⟩
      | succ k=>
       rw[hk] at h hN
       dsimp only at h
       rw[Rn.T.set_put,Rn.fN_eq] at h
       cases h
       unfold NewSl at hN
       obtain⟨M0,hle,hown⟩:=hN
       obtain⟨e2,h5,h6⟩:=Rn.own_new (zFB hh hle) (zNa (zbz base (k+1))) hown
       rw[hn] at h5 h6
       exact⟨[e2],by simp[hn],h6,h5⟩
     | [],h2=>exact h2.elim
     | [_],h2=>exact h2.2.elim
     | [_,_],h2=>exact h2.2.2.elim
     | [_,_,_],h2=>exact h2.2.2.2.elim
     | _::_::_::_::_::_,h2=>exact h2.2.2.2.2.elim
    | _::_::_,hvs=>exact hvs.2.elim
   ·cases h
  ·cases h
 ·cases h
end Go.Proofs.YtdgikhhkgnjalaaGreat
