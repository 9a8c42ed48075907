/- Part of this proof;laid by program. -/
import Derived.Test.YtpnhjkiligohnaaGreatDoorJ18
set_option linter.unusedVariables false
set_option linter.unusedSimpArgs false
namespace Go.Vm.Rn
open Go.Vm
set_option linter.unusedVariables false
section
section
variable {P:Program} {F:Cal} {σ:List E} {s:S} {t:St} {y:Out} {nb:Nat}
def Md.rd (md:Md) (a:Nat):Prop:=match md with | .kp l=>mem a l=true|_=>True
def Md.g (md:Md):Option (List Nat):=match md with | .kp l=>some l|_=>none
def XR (σ:List E) (md:Md) (HX:T O) (X:Mem):Prop:=∀ a o,md.rd a→HX.get a=some o→∃ e,σ[a]? = some e∧OR σ e o X
def XK (σ:List E) (md:Md) (HX:T O) (X:Mem):Prop:=match md with | .kp l=>∀ b x,X b=some x→∃ a∈l,∃ o e,HX.get a=some o∧σ[a]? = some e∧e.nil=false∧e.addr=b|_=>True
theorem XR.ext {md:Md} {HX:T O} {X:Mem} (h:XR σ md HX X) {σ':List E} {t':St} (x:Ext σ t σ' t'):XR σ' md HX X:=fun a o ha hg=>by
 obtain⟨e,h1,h2⟩:=h a o ha hg;obtain⟨τ,rfl⟩:=x.σ;exact⟨e,zlN τ h1,h2.mono τ⟩
theorem XK.ext {md:Md} {HX:T O} {X:Mem} (h:XK σ md HX X) {σ':List E} {t':St} (x:Ext σ t σ' t'):XK σ' md HX X:=by
 cases md with
 | kp l=>
  intro b u hb;obtain⟨a,h1,o,e,h2,h3,h4⟩:=h b u hb;exact⟨a,h1,o,e,h2,zmd x h3,h4⟩
 | _=>trivial
theorem BRs.ext {l:List B} {r:List BE} (h:All2 (BR σ t.bx.length) l r) {σ':List E} {t':St} (x:Ext σ t σ' t'):All2 (BR σ' t'.bx.length) l r:=by
 obtain⟨τ,rfl⟩:=x.σ;exact h.imp fun _ _ hb=>hb.mono τ x.bx
theorem zOS {md:Md} (hmd:md ≠ .coll) {bx0:List B} {bx0x:List BE} {o:zZ} (hq:zy o.op=true∨∀ (s:S) (K:V→R),qd o.op s K=none) {HX:T O} {X:Mem} {acc:List Nat} {K:S→List Nat→R} (h:tk md bx0 o HX s acc K=some y) (hr:SR σ s t) (hX:XR σ md HX X) (hb:All2 (BR σ t.bx.length) bx0 bx0x) {k:St→Prop}
  (hk:∀ s' t',Ext σ t σ t'→SR σ s' t'→K s' acc=some y→k t') :
  match o.guard with
  | none=>vq o.op ⟨t.fr,bx0x,X⟩ fun sv=>zfn o.sp sv fun sv'=>t.putK o.dst sv' k
  | some (g,b)=>Vm.ev t (.tmp g) fun gv=>brG b gv (vq o.op ⟨t.fr,bx0x,X⟩ fun sv=>zfn o.sp sv fun sv'=>t.putK o.dst sv' k) (t.putK o.dst SV.skip k):=by
 have hext:∀ (d:Option Nat) (sv:SV),Ext σ t σ (t.put d sv):=fun d sv=>⟨⟨[],by simp⟩,by cases d<;>exact Nat.le_refl _⟩
 have one:tk1 md bx0 o HX s acc K=some y→vq o.op ⟨t.fr,bx0x,X⟩ fun sv=>zfn o.sp sv fun sv'=>t.putK o.dst sv' k:=fun h1=>by
  have h2:(qd o.op (s.with bx0 HX md.g) fun v=>sp o.sp v fun v'=>s.put o.dst v' fun s'=>K s' acc)=some y:=by
   cases md with
   | coll=>exact absurd rfl hmd
   | free=>exact h1
   | kp l=>exact h1
  rcases hq with hq|hq
  ·have hQ:QR σ t.bx.length (s.with bx0 HX md.g) ⟨t.fr,bx0x,X⟩:=by
    obtain⟨nl,tl,L,bx,n,H,g⟩:=s;refine⟨hr.fr,hb,fun a o ha hg=>hX a o ?_ hg⟩;cases md with
    | kp l=>exact ha
    | _=>trivial
   exact zOO o.op hq hQ h2 fun v sv hv h3=>zMZ h3 hv fun v' sv' hv' h4=>by
    obtain⟨s'',h5,h6⟩:=hr.put_s h4 hv';rw[zfu];exact hk s'' _ (hext _ _) h6 h5
  ·rw[hq] at h2;cases h2
 have h':(match o.guard with|none=>tk1 md bx0 o HX s acc K|some g=>ev s (.tmp g.1) fun v=>gd g.2 v (tk1 md bx0 o HX s acc K) (s.put o.dst zrc fun s'=>K s' acc))=some y:=by
  unfold tk at h;cases hg:o.guard with
  | none=>rw[hg] at h;exact h
  | some g=>rw[hg] at h;exact h
 cases hg:o.guard with
 | none=>rw[hg] at h';exact one h'
 | some g=>
  rw[hg] at h';obtain⟨g,b⟩:=g;refine zW h' hr.fr fun v sv _ hv h1=>zEy h1 hv one (fun h2=>?_)
  obtain⟨s'',h3,h4⟩:=hr.put_s h2 zy5;rw[zfu];exact hk s'' _ (hext _ _) h4 h3
theorem zOc {o:ROp}:zy o=true∨∀ (s:S) (K:V→R),qd o s K=none:=by
 cases o<;>first|exact .inl rfl|exact .inr fun _ _=>rfl
theorem zM6 {md:Md} (hmd:md ≠ .coll) {more:DTree} {a b:R} (h:zEr md more a b=some y):a=some y∧(more = .none∨b=some y):=by
 unfold zEr at h;cases hn:isNone more with
 | true=>
  rw[hn] at h;refine⟨h,.inl ?_⟩;cases more<;>first|rfl|cases hn
 | false=>
  rw[hn] at h;cases md with
  | coll=>exact absurd rfl hmd
  | free=>obtain⟨h3,h4⟩:=zG4 h;exact⟨h3,.inr h4⟩
  | kp l=>obtain⟨h3,h4⟩:=zG4 h;exact⟨h3,.inr h4⟩
theorem zOd (hF:FOk P F) {o:zZ} {K K2:S→R} (h:opD F o s K K2=some y) (hr:SR σ s t) {k k2:St→Prop} (hk:∀ σ' s' t',Ext σ t σ' t'→SR σ' s' t'→K s'=some y→k t') (hk2:∀ s' t',Ext σ t σ t'→SR σ s' t'→K2 s'=some y→k2 t') :
  match o.guard with
  | none=>vop P o t k
  | some (g,b)=>Vm.ev t (.tmp g) fun sv=>brG b sv (vop P o t k) (t.putK o.dst SV.skip k2):=by
 have h':(match o.guard with|none=>op F o s K|some g=>ev s (.tmp g.1) fun v=>gd g.2 v (op F o s K) (s.put o.dst zrc K2))=some y:=by
  unfold opD at h;cases hg:o.guard with
  | none=>rw[hg] at h;exact h
  | some g=>rw[hg] at h;exact h
 cases hg:o.guard with
 | none=>rw[hg] at h';exact zEx hF h' hr hk
 | some g=>
  rw[hg] at h';obtain⟨g,b⟩:=g;refine zW h' hr.fr fun v sv _ hv h1=>zEy h1 hv (fun h2=>zEx hF h2 hr hk) (fun h2=>?_)
  obtain⟨s'',h3,h4⟩:=hr.put_s h2 zy5;rw[zfu];refine hk2 s'' _ ⟨⟨[],by simp⟩,?_⟩ h4 h3;cases o.dst<;>exact Nat.le_refl _
theorem zth (hF:FOk P F) {md:Md} (hmd:md ≠ .coll) {bx0:List B} {bx0x:List BE}:∀ {tr:DTree} {σ:List E} {s:S} {t:St} {HX:T O} {X:Mem} {acc:List Nat} {K:S→List Nat→R},dr F md bx0 tr HX s acc K=some y→SR σ s t→XR σ md HX X→XK σ md HX X →
  All2 (BR σ t.bx.length) bx0 bx0x→∀ {k:St→Prop},(∀ σ' s' t',Ext σ t σ' t'→SR σ' s' t'→K s' acc=some y→k t')→zbr P X bx0x tr t k
 | .done,σ,s,t,HX,X,acc,K,h,hr,hX,hK,hb,k,hk=>hk σ s t Ext.rfl' hr h
 | .none,σ,s,t,HX,X,acc,K,h,hr,hX,hK,hb,k,hk=>trivial
 | .take o tr,σ,s,t,HX,X,acc,K,h,hr,hX,hK,hb,k,hk=>by
  have h':tk md bx0 o HX s acc (fun s' acc'=>dr F md bx0 tr HX s' acc' K)=some y:=h;have:=zOS hmd zOc h' hr hX hb (k:=fun t'=>zbr P X bx0x tr t' k) fun s' t' hx hr' h1=>zth hF hmd h1 hr' (hX.ext hx) (hK.ext hx) (BRs.ext hb hx) fun σ'' s'' t'' hx' hr'' h2=>hk σ'' s'' t'' (hx.trans hx') hr'' h2
  obtain⟨fr,bx,M⟩:=t;exact this
 | .alt o need tr more,σ,s,t,HX,X,acc,K,h,hr,hX,hK,hb,k,hk=>by
  have h':zEr md more (opD F o s (fun s'=>zEq need md bx0 HX s' fun HX'=>dr F md bx0 tr HX' s' acc K) (fun s'=>dr F md bx0 tr HX s' acc K)) (dr F md bx0 more HX s acc K)=some y:=h;have h2:(opD F o s (fun s'=>zEq need md bx0 HX s' fun HX'=>dr F md bx0 tr HX' s' acc K) (fun s'=>dr F md bx0 tr HX s' acc K))=some y∧(more = .none∨dr F md bx0 more HX s acc K=some y):=zM6 hmd h'
  obtain⟨h3,h4⟩:=h2;refine⟨?_,?_⟩
  ·refine zOd hF h3 hr (fun σ' s' t' hx hr' h5=>?_) (fun s' t' hx hr' h5=>zth hF hmd h5 hr' (hX.ext hx) (hK.ext hx) (BRs.ext hb hx) fun σ'' s'' t'' hx' hr'' h6=>hk σ'' s'' t'' (hx.trans hx') hr'' h6)
   ·         cases need with
    | false=>exact zth hF hmd h5 hr' (hX.ext hx) (hK.ext hx) (BRs.ext hb hx) fun σ'' s'' t'' hx' hr'' h6=>hk σ'' s'' t'' (hx.trans hx') hr'' h6
    | true=>
     cases md with
     | coll=>exact absurd rfl hmd
     | free=>cases h5
     | kp l=>
      obtain⟨h6,h7⟩:=zr (b:=zBo l HX s'.H) h5;obtain⟨h8,h9⟩:=zr h7;refine zKv hr'.h ?_ h8 (BRs.ext hb hx) hr'.bx;refine⟨part σ' s'.H t'.M l,fun b u hbu=>?_,part_le,?_⟩
      ·obtain⟨a,ha,o',e,hg,he,hn,hadr⟩:=hK b u hbu;obtain⟨e',he',ho⟩:=hX a o' (mem_s.2 ha) hg;rw[he] at he';cases he';have hg':=zBE h6 a ha o' hg
       obtain⟨e2,he2,ho2⟩:=hr'.h.has a o' hg';rw[zmd hx he] at he2;cases he2;obtain⟨τ,rfl⟩:=hx.σ;have:=OR.fn (ho.mono τ) ho2 hn
       rw[hadr] at this;unfold part;rw[if_pos ⟨a,ha,o',e,hg',zlN τ he,hn,hadr⟩,←this];exact hbu
      ·refine zth hF hmd h9 hr' (fun a o' ha hg=>zwp hr'.h (mem_s.1 ha) hg) (fun b u hbu=>?_) (BRs.ext hb hx) fun σ'' s'' t'' hx' hr'' h6=>hk σ'' s'' t'' (hx.trans hx') hr'' h6
       obtain⟨a,ha,o',e,hg,he,hn,hadr, -⟩:=zte hbu;exact⟨a,ha,o',e,hg,he,hn,hadr⟩
  ·rcases h4 with rfl|h4
   ·trivial
   ·exact zth hF hmd h4 hr hX hK hb hk
theorem ztV:∀ tr:DTree,zBp tr=zhj tr
 | .done=>rfl
 | .none=>rfl
 | .take _ tr=>ztV tr
 | .alt _ need tr more=>by
  show (need||zBp tr||zBp more)=(need||zhj tr||zhj more)
  rw[ztV tr,ztV more]
theorem ztW:∀ tr:DTree,zBq tr=zm3 tr
 | .done=>rfl
 | .none=>rfl
 | .take _ tr=>ztW tr
 | .alt o need tr more=>by
  show ((need&&ztG o.op)||zBq tr||zBq more)=((need&&ztG o.op)||zm3 tr||zm3 more)
  rw[ztW tr,ztW more]
theorem zEB {ks:List Nat} {d:Nat→Nat}:∀ {l:List B} {r:List BE} {i:Nat},All2 (BR σ nb) l r→All2 (BR σ nb) (zH0 ks l i) (dim ks d i r)
 | [],[],_,_=>trivial
 | b::l,x::r,i,h=>by
  show All2 (BR σ nb) (Bool.rec b .dark (mem i ks)::zH0 ks l (i+1)) ((if i∈ks then .gone (d i) else x)::dim ks d (i+1) r);cases hm:mem i ks with
  | true=>rw[if_pos (mem_s.1 hm)];exact⟨⟨d i,rfl⟩,zEB h.2⟩
  | false=>rw[if_neg (fun hi=>by rw[mem_s.2 hi] at hm;cases hm)];exact⟨h.1,zEB h.2⟩
 | [],_::_,_,h=>h.elim
 | _::_,[],_,h=>h.elim
theorem zG6 (hF:FOk P F) {tr:DTree} {K:S→R} (h:draw F tr s K=some y) (hr:SR σ s t) {k:St→Prop} (hk:∀ σ' s' t',Ext σ t σ' t'→SR σ' s' t'→K s'=some y→k t'):ztH P tr t k:=by
 unfold draw at h;unfold ztH;rw[←ztV];cases ha:zBp tr with
 | false=>
  rw[ha] at h;obtain⟨fr,bx,M⟩:=t;exact zth hF (by simp) h hr (fun a o _ hg=>hr.h.has a o hg) trivial hr.bx hk
 | true=>
  rw[ha] at h;obtain⟨z, -, h1⟩:=zgh h;split at h1
  ·rw[zbA,zbA] at h1;rw[←ztW];cases hs:zBq tr with
   | true=>
    rw[hs] at h1;refine⟨_,part σ s.H t.M _,part_le,fun d=>zth hF (md := .kp _) (by simp) h1 hr (fun a o ha hg=>zwp hr.h (mem_s.1 ha) hg) (fun b u hbu=>?_) (zEB hr.bx) hk⟩;obtain⟨a,ha,o',e,hg,he,hn,hadr, -⟩:=zte hbu;exact⟨a,ha,o',e,hg,he,hn,hadr⟩
   | false=>
    rw[hs] at h1;refine⟨part σ s.H t.M _,part_le,zth hF (md := .kp _) (by simp) h1 hr (fun a o ha hg=>zwp hr.h (mem_s.1 ha) hg) (fun b u hbu=>?_) hr.bx hk⟩;obtain⟨a,ha,o',e,hg,he,hn,hadr, -⟩:=zte hbu;exact⟨a,ha,o',e,hg,he,hn,hadr⟩
  ·cases h1
theorem zLC (hF:FOk P F) {tr:DTree} {K:S→R} (h:zAA F tr s K=some y) (hr:SR σ s t) {k:St→Prop} (hk:∀ σ' s' t',Ext σ t σ' t'→SR σ' s' t'→K s'=some y→k t'):ztH P tr t k:=by
 unfold zAA at h;split at h
 ·obtain⟨z,h1,h2⟩:=zgh h;split at h2
  ·rename_i e s1;refine zG6 hF h1 hr fun σ' s' t' hx hr' h3=>?_
   obtain⟨s'',h4,h5⟩:=zEz h3 hr';rw[zM5] at h4;cases h4;obtain⟨σ'',h6,h7⟩:=zLB hr.n.symm hx.σ h5;exact hk σ'' _ t' ⟨h6,hx.bx⟩ h7 h2
  ·cases h2
 ·exact zG6 hF h hr hk
theorem VR.lt {v:V} {sv:SV} (h:VR σ nb v sv):sv.lt nb=true:=by
 have sc:∀ {c:C} {x:SC},SCR σ nb c x→x.lt nb=true:=fun {c x} h=>by
  cases c with
  | b j o=>obtain⟨h1,rfl⟩:=h;exact decide_eq_true h1
  | _=>obtain⟨v, -, rfl⟩:=h;rfl
 have scs:∀ {l:List C} {xs:List SC},All2 (SCR σ nb) l xs→xs.all (SC.lt nb)=true:=fun {l xs} h=>by
  induction l generalizing xs with
  | nil=>cases xs with
   | nil=>rfl
   | cons _ _=>exact h.elim
  | cons c l ih=>cases xs with
   | nil=>exact h.elim
   | cons x xs=>rw[List.all_cons,sc h.1,ih h.2];rfl
 cases v with
 | c x=>
  rcases h with ⟨x,h1,rfl⟩|⟨b, -, rfl⟩
  ·exact sc h1
  ·rfl
 | ag l=>obtain⟨cs,h1,rfl⟩:=h;exact scs h1
 | fn g l=>
  rcases h with ⟨cs,h1,rfl⟩|⟨vs, -, rfl⟩
  ·exact scs h1
  ·rfl
 | tp l=>obtain⟨vs, -, rfl⟩:=h;rfl
 | sl j n=>obtain⟨h1,rfl⟩:=h;exact decide_eq_true h1
 | dead=>cases h;rfl
theorem BR.lt {b:B} {x:BE} (h:BR σ nb b x):x.lt nb=true:=by
 cases b with
 | live T l=>
  obtain⟨cs,h1,rfl⟩:=h;exact VR.lt (v := .ag l) ⟨cs,h1,rfl⟩
 | gone a=>obtain⟨e, -, rfl⟩:=h;rfl
 | dark=>obtain⟨a,rfl⟩:=h;rfl
theorem zzC {l:List (Nat×SV)}:∀ {r:List (Nat×SV)},(∀ p∈r,lk l p.1=some p.2)→zw5 l r
 | [],_=>trivial
 | (d,sv)::r,h=>⟨h (d,sv) (by simp),zzC fun p hp=>h p (List.mem_cons_of_mem _ hp)⟩
theorem zx1:∀ l:List BE,zw6 l l
 | []=>trivial
 | _::l=>⟨rfl,zx1 l⟩
theorem zKw {fr:List (Nat×SV)} {p:Nat→Bool} {d:Nat} {sv:SV} (hd:lk fr d=some sv) (hp:p d=true):∀ {l:List Nat},d∈l→lk (l.filterMap fun d=>if p d then (lk fr d).map fun sv=>(d,sv) else none) d=some sv
 | [],h=>by cases h
 | x::l,h=>by
  rw[List.filterMap_cons];by_cases hx:x=d
  ·subst hx;rw[hp,if_pos rfl,hd];show lk ((x,sv)::_) x=_
   rw[znt,if_pos rfl]
  ·have hl:d∈l:=by
    rcases List.mem_cons.1 h with h|h
    ·exact absurd h.symm hx
    ·exact h
   have ih:=zKw hd hp hl;cases hpx:p x with
   | false=>simp only[Bool.false_eq_true,if_false];exact ih
   | true=>
    simp only[if_true];cases hlx:lk fr x with
    | none=>exact ih
    | some u=>show lk ((x,u)::_) d=_;rw[znt,if_neg hx];exact ih
theorem zBJ {d:Nat} {v:V}:∀ {l:List (Nat×V)},zra l d=some v→d∈l.map Prod.fst
 | [],h=>by cases h
 | (k,u)::l,h=>by
  rw[zj8] at h;split at h
  ·rename_i hk;subst hk;simp
  ·exact List.mem_cons_of_mem _ (zBJ h)
theorem zKx (hr:SR σ s t):∃ t',SR σ s t'∧t'.sub t∧t'.bx=t.bx:=by
 let p:Nat→Bool:=fun d=>(s.fget d).isSome
 let fr':=(s.tl.map Prod.fst++List.range s.L.length).filterMap fun d=>if p d then (lk t.fr d).map fun sv=>(d,sv) else none
 have hfr:FR σ t.bx.length s fr':=fun d v hd=>by
  obtain⟨h0,sv,h1,h2⟩:=hr.fr d v hd;refine⟨h0,sv,zKw h1 (by simp[p,hd]) ?_,h2⟩;obtain⟨nl,tl,L,bx,n,H,g⟩:=s;rw[zhw] at hd;split at hd
  ·exact List.mem_append.2 (.inl (zBJ hd))
  ·refine List.mem_append.2 (.inr (List.mem_range.2 ?_));by_cases hl:d<L.length
   ·exact hl
   ·rw[List.getElem?_eq_none (by omega)] at hd;cases hd
 have hmem:∀ q∈fr',lk t.fr q.1=some q.2∧∃ v,s.fget q.1=some v:=fun q hq=>by
  obtain⟨d, -, h1⟩:=List.mem_filterMap.1 hq;split at h1
  ·rename_i hp;rw[Option.map_eq_some_iff] at h1;obtain⟨sv,h2,rfl⟩:=h1;exact⟨h2,Option.isSome_iff_exists.1 hp⟩
  ·cases h1
 refine⟨⟨fr',t.bx,t.M⟩,⟨hr.n,hfr,hr.bx,hr.h⟩,⟨zzC fun q hq=>(hmem q hq).1,zx1 _,Mem.le_refl _,?_⟩,rfl⟩;show (fr'.all (fun p=>p.2.lt t.bx.length)&&t.bx.all (BE.lt t.bx.length))=true
 rw[Bool.and_eq_true];constructor
 ·rw[List.all_eq_true];intro q hq;obtain⟨h1,v,h2⟩:=hmem q hq;obtain⟨-, sv,h3,h4⟩:=hr.fr q.1 v h2;rw[h1] at h3;cases h3;exact h4.lt
 ·have hb:=hr.bx;generalize t.bx.length=m at hb;clear hmem hfr;revert hb;generalize t.bx=r;generalize s.bx=l;intro hb
  induction l generalizing r with
  | nil=>cases r with
   | nil=>rfl
   | cons _ _=>exact hb.elim
  | cons b l ih=>cases r with
   | nil=>exact hb.elim
   | cons x r=>rw[List.all_cons,hb.1.lt,ih r hb.2];rfl
end
end
section
section
variable {P:Program} {F:Cal} {σ:List E} {s:S} {t:St} {y:Out} {nb:Nat}
def X.ex:X→Exit
 | .normal => .normal
 | .ret => .ret
 | .exit i => .exit i
theorem zM7 {a:RCode} (ha:∀ {σ:List E} {s:S} {t:St} {K:X→S→R},zlM F nb a s K=some y→SR σ s t→∀ {Q:Exit→St→Prop},(∀ e σ' s' t',Ext σ t σ' t'→SR σ' s' t'→K e s'=some y→Q (X.ex e) t')→vc P a Q t)
  {K:X→S→R} {n:Nat} (h:zAB (zlM F nb a) n s K=some y) (hr:SR σ s t) {Q:Exit→St→Prop} (hk:∀ e σ' s' t',Ext σ t σ' t'→SR σ' s' t'→K e s'=some y→Q (X.ex e) t'):zay (vc P a) Q t:=by
 left;refine⟨fun m u=>∃ σ' s',Ext σ t σ' u∧SR σ' s' u∧zAB (zlM F nb a) m s' K=some y,?_,?_⟩
 ·obtain⟨t',h1,h2,h3⟩:=zKx hr;exact⟨n,t',⟨σ,s,⟨⟨[],by simp⟩,by rw[h3];exact Nat.le_refl _⟩,h1,h⟩,h2⟩
 ·rintro m u ⟨σ',s',hx,hr',hm⟩;cases m with
  | zero=>cases hm
  | succ m=>
   have hm':zlM F nb a s' (fun e s''=>X.rec (zAB (zlM F nb a) m s'' K) (K .ret s'') (fun i=>K (.exit i) s'') e)=some y:=hm;refine ha hm' hr' fun e σ'' s'' t'' hx' hr'' h1=>?_
   cases e with
   | normal=>
    obtain⟨t3,h2,h3,h4⟩:=zKx hr'';exact⟨m,t3,Nat.lt_succ_self _,⟨σ'',s'',⟨(hx.trans hx').σ,by rw[h4];exact(hx.trans hx').bx⟩,h2,h1⟩,h3⟩
   | ret=>exact hk .ret σ'' s'' t'' (hx.trans hx') hr'' h1
   | exit i=>exact hk (.exit i) σ'' s'' t'' (hx.trans hx') hr'' h1
theorem zmh (hF:FOk P F) (N:Nat):∀ (c:RCode) {σ:List E} {s:S} {t:St} {K:X→S→R},zlM F N c s K=some y→SR σ s t→∀ {Q:Exit→St→Prop},(∀ e σ' s' t',Ext σ t σ' t'→SR σ' s' t'→K e s'=some y→Q (X.ex e) t')→vc P c Q t
 | .skip,σ,s,t,K,h,hr,Q,hk=>hk .normal σ s t Ext.rfl' hr h
 | .draw tr kl,σ,s,t,K,h,hr,Q,hk=>by
  cases kl with
  | cons _ _=>cases h
  | nil=>
   have h':(zAA F tr s fun s'=>s'.cut fun s''=>K .normal s'')=some y:=h;refine zLC hF h' hr fun σ' s' t' hx hr' h1=>?_
   obtain⟨s'',h2,h3⟩:=zEz h1 hr';rw[zk2];exact hk .normal σ' s'' t' hx h3 h2
 | .ops l kl,σ,s,t,K,h,hr,Q,hk=>by
  cases kl with
  | cons _ _=>cases h
  | nil=>
   have h':(ops F l s fun s'=>s'.cut fun s''=>K .normal s'')=some y:=h;refine zKu hF h' hr fun σ' s' t' hx hr' h1=>?_
   obtain⟨s'',h2,h3⟩:=zEz h1 hr';rw[zk2];exact hk .normal σ' s'' t' hx h3 h2
 | .seq a b,σ,s,t,K,h,hr,Q,hk=>by
  have h':zlM F N a s (fun e s'=>X.rec (zlM F N b s' K) (K .ret s') (fun i=>K (.exit i) s') e)=some y:=h;refine zmh hF N a h' hr fun e σ' s' t' hx hr' h1=>?_
  cases e with
  | normal=>exact zmh hF N b h1 hr' fun e σ'' s'' t'' hx' hr'' h2=>hk e σ'' s'' t'' (hx.trans hx') hr'' h2
  | ret=>exact hk .ret σ' s' t' hx hr' h1
  | exit i=>exact hk (.exit i) σ' s' t' hx hr' h1
 | .cond c a b,σ,s,t,K,h,hr,Q,hk=>by
  have h':(evB s c fun t=>Bool.rec (zlM F N b s K) (zlM F N a s K) t)=some y:=h;exact zW h' hr.fr fun v sv _ hv h1=>zEt h1 hv (fun h2=>zmh hF N a h2 hr hk) (fun h2=>zmh hF N b h2 hr hk)
 | .block id a,σ,s,t,K,h,hr,Q,hk=>by
  have h':zlM F N a s (fun e s'=>X.rec (K .normal s') (K .ret s') (fun i=>Bool.rec (K (.exit i) s') (K .normal s') (Nat.beq i id)) e)=some y:=h;refine zmh hF N a h' hr fun e σ' s' t' hx hr' h1=>?_
  cases e with
  | normal=>exact hk .normal σ' s' t' hx hr' h1
  | ret=>exact hk .ret σ' s' t' hx hr' h1
  | exit i=>
   show (match Nat.beq i id with|true=>Q .normal t'|false=>Q (.exit i) t');replace h1:(Bool.rec (K (.exit i) s') (K .normal s') (Nat.beq i id):R)=some y:=h1;cases hb:Nat.beq i id with
   | true=>rw[hb] at h1;exact hk .normal σ' s' t' hx hr' h1
   | false=>rw[hb] at h1;exact hk (.exit i) σ' s' t' hx hr' h1
 | .loop a,σ,s,t,K,h,hr,Q,hk=>zM7 (fun h hr _ hk=>zmh hF N a h hr hk) h hr hk
 | .exit id,σ,s,t,K,h,hr,Q,hk=>hk (.exit id) σ s t Ext.rfl' hr h
 | .ret,σ,s,t,K,h,hr,Q,hk=>hk .ret σ s t Ext.rfl' hr h
 | .scope a,σ,s,t,K,h,hr,Q,hk=>by
  refine zmh hF N a h hr fun e σ' s' t' hx hr' h1=>?_
  cases e with
  | normal=>exact hk .normal σ' s' t' hx hr' h1
  | ret=>exact hk .ret σ' s' t' hx hr' h1
  | exit i=>exact hk (.exit i) σ' s' t' hx hr' h1
 | .rfun _ _ _ _,σ,s,t,K,h,hr,Q,hk=>by cases h
theorem zM8 {r:zc} {K:W→S→R} (h:zMQ r s K=some y) (hr:SR σ s t) {k:Value→St→Prop} (hk:∀ σ' w u s' t',Ext σ t σ' t'→SR σ' s' t'→WR σ' w u→K w s'=some y→k u t'):zw7 r t k:=by
 cases r with
 | tmp d=>
  have h':(ev s (.tmp d) fun v=>shal v s K)=some y:=h;exact zW h' hr.fr fun v sv _ hv h1=>zmf h1 hr hv hk
 | cell g n d=>
  have h':(evP s (.tmp d) (fun _ o cs=>takeC cs o n fun l=>mkv g l fun v=>shal v s K) (fun a o=>cB (Nat.blt 0 n) (row s a o n fun l=>mkv g l fun v=>shal v s K) fail))=some y:=h;refine ztO h' hr.fr hr.bx (fun j o T l cs _ _ hl h1=>?_) (fun a o e he h1=>?_)
  ·obtain⟨h2,h3⟩:=zpE h1;rw[zrd (by rw[←hl.len];exact h2)];exact ztP h3 ((hl.drop o).take n) fun v sv hv h4=>zmf h4 hr hv hk
  ·obtain⟨h2,h3⟩:=zr h1;obtain⟨l,vs,e',h4,h5,h6,h7,h8⟩:=zxX h3 hr.q;rw[he] at h4;cases h4;rcases h8 with rfl|h8
   ·cases h2
   ·rw[h8];exact ztP h7 (h6.sc _) fun v sv hv h9=>zmf h9 hr hv hk
theorem zG7:∀ {rs:List zc} {σ:List E} {s:S} {t:St} {K:List W→S→R},zwm rs s K=some y→SR σ s t→∀ {k:List Value→St→Prop},(∀ σ' ws us s' t',Ext σ t σ' t'→SR σ' s' t'→All2 (WR σ') ws us→K ws s'=some y→k us t')→zAx rs t k
 | [],σ,s,t,K,h,hr,k,hk=>hk σ [] [] s t Ext.rfl' hr trivial h
 | r::rs,σ,s,t,K,h,hr,k,hk=>by
  refine zM8 (K:=fun w s'=>zwm rs s' fun ws s''=>K (w::ws) s'') h hr fun σ' w u s' t' hx hr' hw h1=>?_
  exact zG7 h1 hr' fun σ'' ws us s'' t'' hx' hr'' hws h2=>hk σ'' (w::ws) (u::us) s'' t'' (hx.trans hx') hr'' ⟨hw.ext hx',hws⟩ h2
theorem zBK {v:V} (h:outS v s=some y):y = .rt v s.n s.H:=by
 obtain⟨nl,tl,L,bx,n,H,g⟩:=s;exact(Option.some.inj h).symm
theorem OVR.ofW {w:W} {u:Value} (h:WR σ w u):OVR σ (V.ofW w) u:=by cases w<;>exact h
theorem zOe {ws:List W} {us:List Value} (h:zyY ws s=some y) (hr:SR σ s t) (hws:All2 (WR σ) ws us) {v:V} {n':Nat} {H':T O} (hy:y = .rt v n' H'):zMg us t fun u M'=>σ.length=n'∧OVR σ v u∧HR σ H' M':=by
 obtain⟨fr,bx,M⟩:=t
 match ws,us,hws with
 | [w],[u],hws=>
  have:=zBK (v:=V.ofW w) h;rw[hy] at this;cases this;exact⟨hr.n.symm,OVR.ofW hws.1,hr.h⟩
 | [],[],_=>
  have:=zBK (v := .tp []) h;rw[hy] at this;cases this;exact⟨hr.n.symm,⟨[],trivial,rfl⟩,hr.h⟩
 | w::w'::ws,u::u'::us,hws=>
  have:=zBK (v := .tp (w::w'::ws)) h;rw[hy] at this;cases this;exact⟨hr.n.symm,⟨_,hws,rfl⟩,hr.h⟩
 | [_],_::_::_,h=>exact h.2.elim
 | _::_::_,[_],h=>exact h.2.elim
theorem zDj:∀ (n:Nat) (K:List (Option V)→R),zH1 n K=K (List.replicate n none)
 | 0,_=>rfl
 | n+1,K=>zDj n fun r=>K (none::r)
theorem zG8:∀ {ws:List W} {L:List (Option V)} {K:List (Option V)→R},zH2 ws L K=some y→ws.length≤L.length∧K (ws.map (fun w=>some (V.ofW w))++L.drop ws.length)=some y
 | [],_,_,h=>⟨Nat.zero_le _,h⟩
 | _::_,[],_,h=>by cases h
 | w::ws,a::L,K,h=>by
  obtain⟨h1,h2⟩:=zG8 (ws:=ws) (L:=L) (K:=fun r=>K (some (V.ofW w)::r)) h;exact⟨Nat.succ_le_succ h1,h2⟩
theorem args0_lk:∀ {vs:List Value} {i d:Nat} {v:Value},vs[d]? = some v→lk (zm4 i vs) (i+d)=some (zdL v)
 | v::vs,i,0,u,h=>by
  show lk ((i,zdL v)::zm4 (i+1) vs) (i+0)=_;rw[znt,if_pos (by simp)];simp at h;rw[h]
 | v::vs,i,d+1,u,h=>by
  show lk ((i,zdL v)::zm4 (i+1) vs) (i+(d+1))=_;rw[znt,if_neg (by omega),show i+(d+1)=i+1+d by omega];exact args0_lk (by simpa using h)
 | [],_,_,_,h=>by simp at h
theorem zM9 (hF:FOk P F) {N:Nat} {f:FC} {ws:List W} {n:Nat} {H:T O} (h:body F N f ws n H=some y) {v:V} {n':Nat} {H':T O} (hy:y = .rt v n' H') {σ:List E} {M:Mem} {vs:List Value} (hn:σ.length=n) (hh:HR σ H M) (hws:All2 (WR σ) ws vs) :
  ws.length≤f.nl∧vfn P f.c f.rs vs M fun u M'=>∃ τ,(σ++τ).length=n'∧OVR (σ++τ) v u∧HR (σ++τ) H' M':=by
 obtain⟨nl,c,rs⟩:=f;have h':(zH1 nl fun L=>zH2 ws L fun L'=>zlM F N c ⟨nl,[],L',[],n,H,none⟩ fun e s=>X.rec (zwm rs s zyY) (zwm rs s zyY) (fun _=>fail) e)=some y:=h
 rw[zDj] at h';obtain⟨h1,h2⟩:=zG8 h';rw[List.length_replicate] at h1;refine⟨h1,?_⟩;show zan _ _
 rw[z8]
 have hs:SR σ ⟨nl,[],ws.map (fun w=>some (V.ofW w))++(List.replicate nl none).drop ws.length,[],n,H,none⟩ ⟨zm4 0 vs,[],M⟩:=by
  refine⟨hn.symm,fun d u hd=>?_,trivial,hh⟩;rw[zhw] at hd;split at hd
  ·cases hd
  ·by_cases hdl:d<ws.length
   ·rw[List.getElem?_append_left (by simpa using hdl),List.getElem?_map] at hd;obtain⟨w,hw⟩:∃ w,ws[d]? = some w:=⟨_,List.getElem?_eq_getElem hdl⟩
    rw[hw] at hd;simp at hd;subst hd;obtain⟨u,hu,hwu⟩:=hws.at_ hw;refine⟨by cases w<;>simp[V.ofW],zdL u,?_,ztN hwu⟩;have:=args0_lk (i:=0) hu
    rwa [Nat.zero_add] at this
   ·rw[List.getElem?_append_right (by simpa using hdl)] at hd;simp only[List.length_map,List.getElem?_drop,List.getElem?_replicate] at hd;split at hd<;>simp at hd
 refine zmh hF N c h2 hs fun e σ' s' t' hx hr' h3=>?_
 have fin:zwm rs s' zyY=some y→zAK rs t' fun u M'=>∃ τ,(σ++τ).length=n'∧OVR (σ++τ) v u∧HR (σ++τ) H' M':=fun h4=>by
  refine zG7 h4 hr' fun σ'' ws' us s'' t'' hx' hr'' hws' h5=>?_
  have:=zOe h5 hr'' hws' hy;obtain⟨τ,rfl⟩:=(hx.trans hx').σ;obtain⟨fr,bx,M2⟩:=t''
  match us,this with
  | [u],this=>exact⟨τ,this⟩
  | [],this=>exact⟨τ,this⟩
  | _::_::_,this=>exact⟨τ,this⟩
 cases e with
 | normal=>exact fin h3
 | ret=>exact fin h3
 | exit i=>cases h3
def Prim (P:Program) (g:Nat) (p:List W→Nat→T O→R):Prop:=∀ {ws:List W} {n:Nat} {H:T O} {v:V} {n':Nat} {H':T O},p ws n H=some (.rt v n' H') →
 ∀ {σ:List E} {M:Mem} {vs:List Value},σ.length=n→HR σ H M→All2 (WR σ) ws vs→CallsM P g vs M fun u M'=>∃ τ,(σ++τ).length=n'∧OVR (σ++τ) v u∧HR (σ++τ) H' M'
theorem zKy {prim:T (List W→Nat→T O→R)} {tab:T FC} {N:Nat} (hp:∀ g p,prim.get g=some p→Prim P g p) (htab:∀ g f,tab.get g=some f→∀ {args:List Value} {M:Mem} {R:Value→Mem→Prop},args.length≤f.nl→vfn P f.c f.rs args M R→CallsM P g args M R):∀ d,FOk P (run prim tab N d)
 | 0=>fun h _ _ _ _=>by cases h
 | d+1=>by
  intro h v n' H' hy σ M vs hn hh hws;rename_i g ws n H y;have h':(Option.rec (oV (tab.get g) fun f=>body (run prim tab N d) N f ws n H) (fun p=>p ws n H) (prim.get g):R)=some y:=h
  cases hg:prim.get g with
  | some p=>
   rw[hg] at h';subst hy;exact hp g p hg h' hn hh hws
  | none=>
   rw[hg] at h';obtain⟨f,h1,h2⟩:=zgh (K:=fun f=>body (run prim tab N d) N f ws n H) h';obtain⟨h3,h4⟩:=zM9 (zKy hp htab d) h2 hy hn hh hws;exact htab _ f h1 (by rw[←hws.len];exact h3) h4
end
def T.All {α:Type} (p:Nat→α→Prop):T α→Prop
 | .e=>True
 | .n l v r=>(∀ x,v=some x→p 0 x)∧l.All (fun k x=>p (2*k+1) x)∧r.All (fun k x=>p (2*k+2) x)
theorem T.All.get {α:Type}:∀ {t:T α} {p:Nat→α→Prop},t.All p→∀ {k:Nat} {x:α},t.get k=some x→p k x
 | .e,_,_,_,_,h=>by cases h
 | .n l v r,p,ha,0,x,h=>ha.1 x h
 | .n l v r,p,ha,m+1,x,h=>by
  rw[T.get_1] at h;split at h
  ·rename_i hm;have hm':m % 2=1:=Nat.eq_of_beq_eq_true hm
   have:=ha.2.2.get h
   rwa [show 2*(m / 2)+2=m+1 by omega] at this
  ·rename_i hm;have hm':m % 2≠1:=fun e=>by rw[e] at hm;exact hm rfl
   have:=ha.2.1.get h
   rwa [show 2*(m / 2)+1=m+1 by omega] at this
theorem T.All.nil {α:Type} {p:Nat→α→Prop}:(T.e:T α).All p:=trivial
theorem T.All.no {α:Type} {p:Nat→α→Prop} {l r:T α} (hl:l.All fun k x=>p (2*k+1) x) (hr:r.All fun k x=>p (2*k+2) x):(T.n l none r).All p:=⟨fun _ h=>(by cases h),hl,hr⟩
theorem T.All.at {α:Type} {p:Nat→α→Prop} {l r:T α} {x:α} (hx:p 0 x) (hl:l.All fun k x=>p (2*k+1) x) (hr:r.All fun k x=>p (2*k+2) x):(T.n l (some x) r).All p:=⟨fun _ h=>(by cases h;exact hx),hl,hr⟩
def Worth (P:Program) (g:Nat) (f:FC):Prop:=∀ {args:List Value} {M:Mem} {R:Value→Mem→Prop},args.length≤f.nl→vfn P f.c f.rs args M R→CallsM P g args M R
theorem run_ok {P:Program} {prim:T (List W→Nat→T O→R)} {tab:T FC} (hp:prim.All (Prim P)) (h:tab.All (Worth P)) (N d:Nat):FOk P (run prim tab N d):=zKy (fun g p hg=>T.All.get hp hg) (fun g f hg=>T.All.get h hg) d
end
end Go.Vm.Rn
