/- Part of this proof;laid by program. -/
import Derived.Test.YtdogcflaekkdkaaGreatJ15
import Derived.Test.YtdogcflaekkdkaaGreatJ10
import Derived.Test.YtdogcflaekkdkaaGreatJ8
set_option linter.unusedVariables false
set_option linter.unusedSimpArgs false
namespace Go.Vm.Rn
open Go.Vm
set_option linter.unusedVariables false
section
section
variable {P:Program} {F:Cal} {σ:List E} {s:S} {t:St} {y:Out} {nb:Nat}
def Md.rd (md:Md) (a:Nat):Prop:=match md with | .kp l=>mem a l=true|_=>True
def Md.g (md:Md):Option (List Nat):=match md with | .kp l=>some l|_=>none
def XR (σ:List E) (md:Md) (HX:T O) (X:Mem):Prop:=∀ a o,md.rd a→HX.get a=some o→∃ e,σ[a]? = some e∧OR σ e o X
def XK (σ:List E) (md:Md) (HX:T O) (X:Mem):Prop:=match md with | .kp l=>∀ b x,X b=some x→∃ a∈l,∃ o e,HX.get a=some o∧σ[a]? = some e∧e.nil=false∧e.addr=b|_=>True
theorem XR.ext {md:Md} {HX:T O} {X:Mem} (h:XR σ md HX X) {σ':List E} {t':St} (x:Ext σ t σ' t'):XR σ' md HX X:=fun a o ha hg=>by
 obtain⟨e,h1,h2⟩:=h a o ha hg
 obtain⟨τ,rfl⟩:=x.σ
 exact⟨e,zna τ h1,h2.mono τ⟩
theorem XK.ext {md:Md} {HX:T O} {X:Mem} (h:XK σ md HX X) {σ':List E} {t':St} (x:Ext σ t σ' t'):XK σ' md HX X:=by
 cases md with
 | kp l=>
  intro b u hb
  obtain⟨a,h1,o,e,h2,h3,h4⟩:=h b u hb
  exact⟨a,h1,o,e,h2,znU x h3,h4⟩
 | _=>trivial
theorem BRs.ext {l:List B} {r:List BE} (h:All2 (BR σ t.bx.length) l r) {σ':List E} {t':St} (x:Ext σ t σ' t'):All2 (BR σ' t'.bx.length) l r:=by
 obtain⟨τ,rfl⟩:=x.σ
 exact h.imp fun _ _ hb=>hb.mono τ x.bx
theorem zPg {md:Md} (hmd:md ≠ .coll) {bx0:List B} {bx0x:List BE} {o:z8} (hq:zq o.op=true∨∀ (s:S) (K:V→R),qd o.op s K=none) {HX:T O} {X:Mem} {acc:List Nat} {K:S→List Nat→R} (h:tk md bx0 o HX s acc K=some y) (hr:SR σ s t) (hX:XR σ md HX X) (hb:All2 (BR σ t.bx.length) bx0 bx0x) {k:St→Prop}
  (hk:∀ s' t',Ext σ t σ t'→SR σ s' t'→K s' acc=some y→k t') :
  match o.guard with
  | none=>vq o.op ⟨t.fr,bx0x,X⟩ fun sv=>zhq o.sp sv fun sv'=>t.putK o.dst sv' k
  | some (g,b)=>Vm.ev t (.tmp g) fun gv=>brG b gv (vq o.op ⟨t.fr,bx0x,X⟩ fun sv=>zhq o.sp sv fun sv'=>t.putK o.dst sv' k) (t.putK o.dst SV.skip k):=by
 have hext:∀ (d:Option Nat) (sv:SV),Ext σ t σ (t.put d sv):=fun d sv=>⟨⟨[],by simp⟩,by cases d<;>exact Nat.le_refl _⟩
 have one:tk1 md bx0 o HX s acc K=some y→vq o.op ⟨t.fr,bx0x,X⟩ fun sv=>zhq o.sp sv fun sv'=>t.putK o.dst sv' k:=fun h1=>by
  have h2:(qd o.op (s.with bx0 HX md.g) fun v=>sp o.sp v fun v'=>s.put o.dst v' fun s'=>K s' acc)=some y:=by
   cases md with
   | coll=>exact absurd rfl hmd
   | free=>exact h1
   | kp l=>exact h1
  rcases hq with hq|hq
  ·have hQ:QR σ t.bx.length (s.with bx0 HX md.g) ⟨t.fr,bx0x,X⟩:=by
    obtain⟨nl,tl,L,bx,n,H,g⟩:=s
    refine⟨hr.fr,hb,fun a o ha hg=>hX a o ?_ hg⟩
    cases md with
    | kp l=>exact ha
    | _=>trivial
   exact zPc o.op hq hQ h2 fun v sv hv h3=>zN9 h3 hv fun v' sv' hv' h4=>by
    obtain⟨s'',h5,h6⟩:=hr.put_s h4 hv'
    rw[zhF]
    exact hk s'' _ (hext _ _) h6 h5
  ·rw[hq] at h2;cases h2
 have h':(match o.guard with|none=>tk1 md bx0 o HX s acc K|some g=>ev s (.tmp g.1) fun v=>gd g.2 v (tk1 md bx0 o HX s acc K) (s.put o.dst zr7 fun s'=>K s' acc))=some y:=by
  unfold tk at h
  cases hg:o.guard with
  | none=>rw[hg] at h;exact h
  | some g=>rw[hg] at h;exact h
 cases hg:o.guard with
 | none=>rw[hg] at h';exact one h'
 | some g=>
  rw[hg] at h'
  obtain⟨g,b⟩:=g
  refine zG h' hr.fr fun v sv _ hv h1=>zFH h1 hv one (fun h2=>?_)
  obtain⟨s'',h3,h4⟩:=hr.put_s h2 zzo
  rw[zhF]
  exact hk s'' _ (hext _ _) h4 h3
theorem zOR {o:ROp}:zq o=true∨∀ (s:S) (K:V→R),qd o s K=none:=by
 cases o<;>first|exact .inl rfl|exact .inr fun _ _=>rfl
theorem zOa {md:Md} (hmd:md ≠ .coll) {more:DTree} {a b:R} (h:zFB md more a b=some y):a=some y∧(more = .none∨b=some y):=by
 unfold zFB at h
 cases hn:isNone more with
 | true=>
  rw[hn] at h
  refine⟨h,.inl ?_⟩
  cases more<;>first|rfl|cases hn
 | false=>
  rw[hn] at h
  cases md with
  | coll=>exact absurd rfl hmd
  | free=>obtain⟨h3,h4⟩:=zIE h;exact⟨h3,.inr h4⟩
  | kp l=>obtain⟨h3,h4⟩:=zIE h;exact⟨h3,.inr h4⟩
theorem zOS (hF:FOk P F) {o:z8} {K K2:S→R} (h:opD F o s K K2=some y) (hr:SR σ s t) {k k2:St→Prop} (hk:∀ σ' s' t',Ext σ t σ' t'→SR σ' s' t'→K s'=some y→k t') (hk2:∀ s' t',Ext σ t σ t'→SR σ s' t'→K2 s'=some y→k2 t') :
  match o.guard with
  | none=>vop P o t k
  | some (g,b)=>Vm.ev t (.tmp g) fun sv=>brG b sv (vop P o t k) (t.putK o.dst SV.skip k2):=by
 have h':(match o.guard with|none=>op F o s K|some g=>ev s (.tmp g.1) fun v=>gd g.2 v (op F o s K) (s.put o.dst zr7 K2))=some y:=by
  unfold opD at h
  cases hg:o.guard with
  | none=>rw[hg] at h;exact h
  | some g=>rw[hg] at h;exact h
 cases hg:o.guard with
 | none=>rw[hg] at h';exact zFG hF h' hr hk
 | some g=>
  rw[hg] at h'
  obtain⟨g,b⟩:=g
  refine zG h' hr.fr fun v sv _ hv h1=>zFH h1 hv (fun h2=>zFG hF h2 hr hk) (fun h2=>?_)
  obtain⟨s'',h3,h4⟩:=hr.put_s h2 zzo
  rw[zhF]
  refine hk2 s'' _ ⟨⟨[],by simp⟩,?_⟩ h4 h3
  cases o.dst<;>exact Nat.le_refl _
theorem zt0 (hF:FOk P F) {md:Md} (hmd:md ≠ .coll) {bx0:List B} {bx0x:List BE}:∀ {tr:DTree} {σ:List E} {s:S} {t:St} {HX:T O} {X:Mem} {acc:List Nat} {K:S→List Nat→R},dr F md bx0 tr HX s acc K=some y→SR σ s t→XR σ md HX X→XK σ md HX X →
  All2 (BR σ t.bx.length) bx0 bx0x→∀ {k:St→Prop},(∀ σ' s' t',Ext σ t σ' t'→SR σ' s' t'→K s' acc=some y→k t')→zbh P X bx0x tr t k
 | .done,σ,s,t,HX,X,acc,K,h,hr,hX,hK,hb,k,hk=>hk σ s t Ext.rfl' hr h
 | .none,σ,s,t,HX,X,acc,K,h,hr,hX,hK,hb,k,hk=>trivial
 | .take o tr,σ,s,t,HX,X,acc,K,h,hr,hX,hK,hb,k,hk=>by
  have h':tk md bx0 o HX s acc (fun s' acc'=>dr F md bx0 tr HX s' acc' K)=some y:=h
  have:=zPg hmd zOR h' hr hX hb (k:=fun t'=>zbh P X bx0x tr t' k) fun s' t' hx hr' h1=>zt0 hF hmd h1 hr' (hX.ext hx) (hK.ext hx) (BRs.ext hb hx) fun σ'' s'' t'' hx' hr'' h2=>hk σ'' s'' t'' (hx.trans hx') hr'' h2
  obtain⟨fr,bx,M⟩:=t
  exact this
 | .alt o need tr more,σ,s,t,HX,X,acc,K,h,hr,hX,hK,hb,k,hk=>by
  have h':zFB md more (opD F o s (fun s'=>zFA need md bx0 HX s' fun HX'=>dr F md bx0 tr HX' s' acc K) (fun s'=>dr F md bx0 tr HX s' acc K)) (dr F md bx0 more HX s acc K)=some y:=h
  have h2:(opD F o s (fun s'=>zFA need md bx0 HX s' fun HX'=>dr F md bx0 tr HX' s' acc K) (fun s'=>dr F md bx0 tr HX s' acc K))=some y∧(more = .none∨dr F md bx0 more HX s acc K=some y):=zOa hmd h'
  obtain⟨h3,h4⟩:=h2
  refine⟨?_,?_⟩
  ·refine zOS hF h3 hr (fun σ' s' t' hx hr' h5=>?_) (fun s' t' hx hr' h5=>zt0 hF hmd h5 hr' (hX.ext hx) (hK.ext hx) (BRs.ext hb hx) fun σ'' s'' t'' hx' hr'' h6=>hk σ'' s'' t'' (hx.trans hx') hr'' h6)
   ·         cases need with
    | false=>exact zt0 hF hmd h5 hr' (hX.ext hx) (hK.ext hx) (BRs.ext hb hx) fun σ'' s'' t'' hx' hr'' h6=>hk σ'' s'' t'' (hx.trans hx') hr'' h6
    | true=>
     cases md with
     | coll=>exact absurd rfl hmd
     | free=>cases h5
     | kp l=>
      obtain⟨h6,h7⟩:=zo (b:=zCq l HX s'.H) h5
      obtain⟨h8,h9⟩:=zo h7
      refine zLS hr'.h ?_ h8 (BRs.ext hb hx) hr'.bx
      refine⟨part σ' s'.H t'.M l,fun b u hbu=>?_,part_le,?_⟩
      ·obtain⟨a,ha,o',e,hg,he,hn,hadr⟩:=hK b u hbu
       obtain⟨e',he',ho⟩:=hX a o' (mem_s.2 ha) hg
       rw[he] at he';cases he'
       have hg':=zCH h6 a ha o' hg
       obtain⟨e2,he2,ho2⟩:=hr'.h.has a o' hg'
       rw[znU hx he] at he2;cases he2
       obtain⟨τ,rfl⟩:=hx.σ
       have:=OR.fn (ho.mono τ) ho2 hn
       rw[hadr] at this
       unfold part
       rw[if_pos ⟨a,ha,o',e,hg',zna τ he,hn,hadr⟩,←this]
       exact hbu
      ·refine zt0 hF hmd h9 hr' (fun a o' ha hg=>zwH hr'.h (mem_s.1 ha) hg) (fun b u hbu=>?_) (BRs.ext hb hx) fun σ'' s'' t'' hx' hr'' h6=>hk σ'' s'' t'' (hx.trans hx') hr'' h6
       obtain⟨a,ha,o',e,hg,he,hn,hadr, -⟩:=ztZ hbu
       exact⟨a,ha,o',e,hg,he,hn,hadr⟩
  ·rcases h4 with rfl|h4
   ·trivial
   ·exact zt0 hF hmd h4 hr hX hK hb hk
theorem zuW:∀ tr:DTree,zCr tr=zi4 tr
 | .done=>rfl
 | .none=>rfl
 | .take _ tr=>zuW tr
 | .alt _ need tr more=>by
  show (need||zCr tr||zCr more)=(need||zi4 tr||zi4 more)
  rw[zuW tr,zuW more]
theorem zuX:∀ tr:DTree,zCs tr=zoi tr
 | .done=>rfl
 | .none=>rfl
 | .take _ tr=>zuX tr
 | .alt o need tr more=>by
  show ((need&&zuI o.op)||zCs tr||zCs more)=((need&&zuI o.op)||zoi tr||zoi more)
  rw[zuX tr,zuX more]
theorem zFI {ks:List Nat} {d:Nat→Nat}:∀ {l:List B} {r:List BE} {i:Nat},All2 (BR σ nb) l r→All2 (BR σ nb) (zJw ks l i) (dim ks d i r)
 | [],[],_,_=>trivial
 | b::l,x::r,i,h=>by
  show All2 (BR σ nb) (Bool.rec b .dark (mem i ks)::zJw ks l (i+1)) ((if i∈ks then .gone (d i) else x)::dim ks d (i+1) r)
  cases hm:mem i ks with
  | true=>rw[if_pos (mem_s.1 hm)];exact⟨⟨d i,rfl⟩,zFI h.2⟩
  | false=>rw[if_neg (fun hi=>by rw[mem_s.2 hi] at hm;cases hm)];exact⟨h.1,zFI h.2⟩
 | [],_::_,_,h=>h.elim
 | _::_,[],_,h=>h.elim
theorem zOb (hF:FOk P F) {tr:DTree} {K:S→R} (h:draw F tr s K=some y) (hr:SR σ s t) {k:St→Prop} (hk:∀ σ' s' t',Ext σ t σ' t'→SR σ' s' t'→K s'=some y→k t'):zxC P tr t k:=by
 unfold draw at h
 unfold zxC
 rw[←zuW]
 cases ha:zCr tr with
 | false=>
  rw[ha] at h
  obtain⟨fr,bx,M⟩:=t
  exact zt0 hF (by simp) h hr (fun a o _ hg=>hr.h.has a o hg) trivial hr.bx hk
 | true=>
  rw[ha] at h
  obtain⟨z, -, h1⟩:=ziL h
  split at h1
  ·rw[zbl,zbl] at h1
   rw[←zuX]
   cases hs:zCs tr with
   | true=>
    rw[hs] at h1
    refine⟨_,part σ s.H t.M _,part_le,fun d=>zt0 hF (md := .kp _) (by simp) h1 hr (fun a o ha hg=>zwH hr.h (mem_s.1 ha) hg) (fun b u hbu=>?_) (zFI hr.bx) hk⟩
    obtain⟨a,ha,o',e,hg,he,hn,hadr, -⟩:=ztZ hbu
    exact⟨a,ha,o',e,hg,he,hn,hadr⟩
   | false=>
    rw[hs] at h1
    refine⟨part σ s.H t.M _,part_le,zt0 hF (md := .kp _) (by simp) h1 hr (fun a o ha hg=>zwH hr.h (mem_s.1 ha) hg) (fun b u hbu=>?_) hr.bx hk⟩
    obtain⟨a,ha,o',e,hg,he,hn,hadr, -⟩:=ztZ hbu
    exact⟨a,ha,o',e,hg,he,hn,hadr⟩
  ·cases h1
theorem VR.lt {v:V} {sv:SV} (h:VR σ nb v sv):sv.lt nb=true:=by
 have sc:∀ {c:C} {x:SC},SCR σ nb c x→x.lt nb=true:=fun {c x} h=>by
  cases c with
  | b j o=>obtain⟨h1,rfl⟩:=h;exact decide_eq_true h1
  | _=>obtain⟨v, -, rfl⟩:=h;rfl
 have scs:∀ {l:List C} {xs:List SC},All2 (SCR σ nb) l xs→xs.all (SC.lt nb)=true:=fun {l xs} h=>by
  induction l generalizing xs with
  | nil=>cases xs with
   | nil=>rfl
   | cons _ _=>exact h.elim
  | cons c l ih=>cases xs with
   | nil=>exact h.elim
   | cons x xs=>rw[List.all_cons,sc h.1,ih h.2];rfl
 cases v with
 | c x=>
  rcases h with ⟨x,h1,rfl⟩|⟨b, -, rfl⟩
  ·exact sc h1
  ·rfl
 | ag l=>obtain⟨cs,h1,rfl⟩:=h;exact scs h1
 | fn g l=>
  rcases h with ⟨cs,h1,rfl⟩|⟨vs, -, rfl⟩
  ·exact scs h1
  ·rfl
 | tp l=>obtain⟨vs, -, rfl⟩:=h;rfl
 | sl j n=>obtain⟨h1,rfl⟩:=h;exact decide_eq_true h1
 | dead=>cases h;rfl
theorem BR.lt {b:B} {x:BE} (h:BR σ nb b x):x.lt nb=true:=by
 cases b with
 | live T l=>
  obtain⟨cs,h1,rfl⟩:=h
  exact VR.lt (v := .ag l) ⟨cs,h1,rfl⟩
 | gone a=>obtain⟨e, -, rfl⟩:=h;rfl
 | dark=>obtain⟨a,rfl⟩:=h;rfl
theorem zAm {l:List (Nat×SV)}:∀ {r:List (Nat×SV)},(∀ p∈r,lk l p.1=some p.2)→zxD l r
 | [],_=>trivial
 | (d,sv)::r,h=>⟨h (d,sv) (by simp),zAm fun p hp=>h p (List.mem_cons_of_mem _ hp)⟩
theorem zye:∀ l:List BE,zxE l l
 | []=>trivial
 | _::l=>⟨rfl,zye l⟩
theorem zLT {fr:List (Nat×SV)} {p:Nat→Bool} {d:Nat} {sv:SV} (hd:lk fr d=some sv) (hp:p d=true):∀ {l:List Nat},d∈l→lk (l.filterMap fun d=>if p d then (lk fr d).map fun sv=>(d,sv) else none) d=some sv
 | [],h=>by cases h
 | x::l,h=>by
  rw[List.filterMap_cons]
  by_cases hx:x=d
  ·subst hx
   rw[hp,if_pos rfl,hd]
   show lk ((x,sv)::_) x=_
   rw[zpa,if_pos rfl]
  ·have hl:d∈l:=by
    rcases List.mem_cons.1 h with h|h
    ·exact absurd h.symm hx
    ·exact h
   have ih:=zLT hd hp hl
   cases hpx:p x with
   | false=>simp only[Bool.false_eq_true,if_false];exact ih
   | true=>
    simp only[if_true]
    cases hlx:lk fr x with
    | none=>exact ih
    | some u=>show lk ((x,u)::_) d=_;rw[zpa,if_neg hx];exact ih
theorem zCI {d:Nat} {v:V}:∀ {l:List (Nat×V)},zwz l d=some v→d∈l.map Prod.fst
 | [],h=>by cases h
 | (k,u)::l,h=>by
  rw[zqb] at h
  split at h
  ·rename_i hk;subst hk;simp
  ·exact List.mem_cons_of_mem _ (zCI h)
theorem zLU (hr:SR σ s t):∃ t',SR σ s t'∧t'.sub t∧t'.bx=t.bx:=by
 let p:Nat→Bool:=fun d=>(s.fget d).isSome
 let fr':=(s.tl.map Prod.fst++List.range s.L.length).filterMap fun d=>if p d then (lk t.fr d).map fun sv=>(d,sv) else none
 have hfr:FR σ t.bx.length s fr':=fun d v hd=>by
  obtain⟨h0,sv,h1,h2⟩:=hr.fr d v hd
  refine⟨h0,sv,zLT h1 (by simp[p,hd]) ?_,h2⟩
  obtain⟨nl,tl,L,bx,n,H,g⟩:=s
  rw[zng] at hd
  split at hd
  ·exact List.mem_append.2 (.inl (zCI hd))
  ·refine List.mem_append.2 (.inr (List.mem_range.2 ?_))
   by_cases hl:d<L.length
   ·exact hl
   ·rw[List.getElem?_eq_none (by omega)] at hd;cases hd
 have hmem:∀ q∈fr',lk t.fr q.1=some q.2∧∃ v,s.fget q.1=some v:=fun q hq=>by
  obtain⟨d, -, h1⟩:=List.mem_filterMap.1 hq
  split at h1
  ·rename_i hp
   rw[Option.map_eq_some_iff] at h1
   obtain⟨sv,h2,rfl⟩:=h1
   exact⟨h2,Option.isSome_iff_exists.1 hp⟩
  ·cases h1
 refine⟨⟨fr',t.bx,t.M⟩,⟨hr.n,hfr,hr.bx,hr.h⟩,⟨zAm fun q hq=>(hmem q hq).1,zye _,Mem.le_refl _,?_⟩,rfl⟩
 show (fr'.all (fun p=>p.2.lt t.bx.length)&&t.bx.all (BE.lt t.bx.length))=true
 rw[Bool.and_eq_true]
 constructor
 ·rw[List.all_eq_true]
  intro q hq
  obtain⟨h1,v,h2⟩:=hmem q hq
  obtain⟨-, sv,h3,h4⟩:=hr.fr q.1 v h2
  rw[h1] at h3;cases h3
  exact h4.lt
 ·have hb:=hr.bx
  generalize t.bx.length=m at hb
  clear hmem hfr
  revert hb
  generalize t.bx=r
  generalize s.bx=l
  intro hb
  induction l generalizing r with
  | nil=>cases r with
   | nil=>rfl
   | cons _ _=>exact hb.elim
  | cons b l ih=>cases r with
   | nil=>exact hb.elim
   | cons x r=>rw[List.all_cons,hb.1.lt,ih r hb.2];rfl
end
end
section
section
variable {P:Program} {F:Cal} {σ:List E} {s:S} {t:St} {y:Out} {nb:Nat}
def X.ex:X→Exit
 | .normal => .normal
 | .ret => .ret
 | .exit i => .exit i
theorem zOc {a:RCode} (ha:∀ {σ:List E} {s:S} {t:St} {K:X→S→R},zm9 F nb a s K=some y→SR σ s t→∀ {Q:Exit→St→Prop},(∀ e σ' s' t',Ext σ t σ' t'→SR σ' s' t'→K e s'=some y→Q (X.ex e) t')→vc P a Q t)
  {K:X→S→R} {n:Nat} (h:zBF (zm9 F nb a) n s K=some y) (hr:SR σ s t) {Q:Exit→St→Prop} (hk:∀ e σ' s' t',Ext σ t σ' t'→SR σ' s' t'→K e s'=some y→Q (X.ex e) t'):zc4 (vc P a) Q t:=by
 left
 refine⟨fun m u=>∃ σ' s',Ext σ t σ' u∧SR σ' s' u∧zBF (zm9 F nb a) m s' K=some y,?_,?_⟩
 ·obtain⟨t',h1,h2,h3⟩:=zLU hr
  exact⟨n,t',⟨σ,s,⟨⟨[],by simp⟩,by rw[h3];exact Nat.le_refl _⟩,h1,h⟩,h2⟩
 ·rintro m u ⟨σ',s',hx,hr',hm⟩
  cases m with
  | zero=>cases hm
  | succ m=>
   have hm':zm9 F nb a s' (fun e s''=>X.rec (zBF (zm9 F nb a) m s'' K) (K .ret s'') (fun i=>K (.exit i) s'') e)=some y:=hm
   refine ha hm' hr' fun e σ'' s'' t'' hx' hr'' h1=>?_
   cases e with
   | normal=>
    obtain⟨t3,h2,h3,h4⟩:=zLU hr''
    exact⟨m,t3,Nat.lt_succ_self _,⟨σ'',s'',⟨(hx.trans hx').σ,by rw[h4];exact(hx.trans hx').bx⟩,h2,h1⟩,h3⟩
   | ret=>exact hk .ret σ'' s'' t'' (hx.trans hx') hr'' h1
   | exit i=>exact hk (.exit i) σ'' s'' t'' (hx.trans hx') hr'' h1
theorem znX (hF:FOk P F) (N:Nat):∀ (c:RCode) {σ:List E} {s:S} {t:St} {K:X→S→R},zm9 F N c s K=some y→SR σ s t→∀ {Q:Exit→St→Prop},(∀ e σ' s' t',Ext σ t σ' t'→SR σ' s' t'→K e s'=some y→Q (X.ex e) t')→vc P c Q t
 | .skip,σ,s,t,K,h,hr,Q,hk=>hk .normal σ s t Ext.rfl' hr h
 | .draw tr kl,σ,s,t,K,h,hr,Q,hk=>by
  cases kl with
  | cons _ _=>cases h
  | nil=>
   have h':(draw F tr s fun s'=>s'.cut fun s''=>K .normal s'')=some y:=h
   refine zOb hF h' hr fun σ' s' t' hx hr' h1=>?_
   obtain⟨s'',h2,h3⟩:=zLR h1 hr'
   rw[zmZ]
   exact hk .normal σ' s'' t' hx h3 h2
 | .ops l kl,σ,s,t,K,h,hr,Q,hk=>by
  cases kl with
  | cons _ _=>cases h
  | nil=>
   have h':(ops F l s fun s'=>s'.cut fun s''=>K .normal s'')=some y:=h
   refine zLQ hF h' hr fun σ' s' t' hx hr' h1=>?_
   obtain⟨s'',h2,h3⟩:=zLR h1 hr'
   rw[zmZ]
   exact hk .normal σ' s'' t' hx h3 h2
 | .seq a b,σ,s,t,K,h,hr,Q,hk=>by
  have h':zm9 F N a s (fun e s'=>X.rec (zm9 F N b s' K) (K .ret s') (fun i=>K (.exit i) s') e)=some y:=h
  refine znX hF N a h' hr fun e σ' s' t' hx hr' h1=>?_
  cases e with
  | normal=>exact znX hF N b h1 hr' fun e σ'' s'' t'' hx' hr'' h2=>hk e σ'' s'' t'' (hx.trans hx') hr'' h2
  | ret=>exact hk .ret σ' s' t' hx hr' h1
  | exit i=>exact hk (.exit i) σ' s' t' hx hr' h1
 | .cond c a b,σ,s,t,K,h,hr,Q,hk=>by
  have h':(evB s c fun t=>Bool.rec (zm9 F N b s K) (zm9 F N a s K) t)=some y:=h
  exact zG h' hr.fr fun v sv _ hv h1=>zFC h1 hv (fun h2=>znX hF N a h2 hr hk) (fun h2=>znX hF N b h2 hr hk)
 | .block id a,σ,s,t,K,h,hr,Q,hk=>by
  have h':zm9 F N a s (fun e s'=>X.rec (K .normal s') (K .ret s') (fun i=>Bool.rec (K (.exit i) s') (K .normal s') (Nat.beq i id)) e)=some y:=h
  refine znX hF N a h' hr fun e σ' s' t' hx hr' h1=>?_
  cases e with
  | normal=>exact hk .normal σ' s' t' hx hr' h1
  | ret=>exact hk .ret σ' s' t' hx hr' h1
  | exit i=>
   show (match Nat.beq i id with|true=>Q .normal t'|false=>Q (.exit i) t')
   replace h1:(Bool.rec (K (.exit i) s') (K .normal s') (Nat.beq i id):R)=some y:=h1
   cases hb:Nat.beq i id with
   | true=>rw[hb] at h1;exact hk .normal σ' s' t' hx hr' h1
   | false=>rw[hb] at h1;exact hk (.exit i) σ' s' t' hx hr' h1
 | .loop a,σ,s,t,K,h,hr,Q,hk=>zOc (fun h hr _ hk=>znX hF N a h hr hk) h hr hk
 | .exit id,σ,s,t,K,h,hr,Q,hk=>hk (.exit id) σ s t Ext.rfl' hr h
 | .ret,σ,s,t,K,h,hr,Q,hk=>hk .ret σ s t Ext.rfl' hr h
 | .scope a,σ,s,t,K,h,hr,Q,hk=>by
  refine znX hF N a h hr fun e σ' s' t' hx hr' h1=>?_
  cases e with
  | normal=>exact hk .normal σ' s' t' hx hr' h1
  | ret=>exact hk .ret σ' s' t' hx hr' h1
  | exit i=>exact hk (.exit i) σ' s' t' hx hr' h1
 | .rfun _ _ _ _,σ,s,t,K,h,hr,Q,hk=>by cases h
theorem zOd {r:zd} {K:W→S→R} (h:zN0 r s K=some y) (hr:SR σ s t) {k:Value→St→Prop} (hk:∀ σ' w u s' t',Ext σ t σ' t'→SR σ' s' t'→WR σ' w u→K w s'=some y→k u t'):zxF r t k:=by
 cases r with
 | tmp d=>
  have h':(ev s (.tmp d) fun v=>shal v s K)=some y:=h
  exact zG h' hr.fr fun v sv _ hv h1=>znW h1 hr hv hk
 | cell g n d=>
  have h':(evP s (.tmp d) (fun _ o cs=>takeC cs o n fun l=>mkv g l fun v=>shal v s K) (fun a o=>cB (Nat.blt 0 n) (row s a o n fun l=>mkv g l fun v=>shal v s K) fail))=some y:=h
  refine zuQ h' hr.fr hr.bx (fun j o T l cs _ _ hl h1=>?_) (fun a o e he h1=>?_)
  ·obtain⟨h2,h3⟩:=zrl h1
   rw[zr8 (by rw[←hl.len];exact h2)]
   exact zuR h3 ((hl.drop o).take n) fun v sv hv h4=>znW h4 hr hv hk
  ·obtain⟨h2,h3⟩:=zo h1
   obtain⟨l,vs,e',h4,h5,h6,h7,h8⟩:=zyc h3 hr.q
   rw[he] at h4;cases h4
   rcases h8 with rfl|h8
   ·cases h2
   ·rw[h8]
    exact zuR h7 (h6.sc _) fun v sv hv h9=>znW h9 hr hv hk
theorem zIF:∀ {rs:List zd} {σ:List E} {s:S} {t:St} {K:List W→S→R},zwE rs s K=some y→SR σ s t→∀ {k:List Value→St→Prop},(∀ σ' ws us s' t',Ext σ t σ' t'→SR σ' s' t'→All2 (WR σ') ws us→K ws s'=some y→k us t')→zBA rs t k
 | [],σ,s,t,K,h,hr,k,hk=>hk σ [] [] s t Ext.rfl' hr trivial h
 | r::rs,σ,s,t,K,h,hr,k,hk=>by
  refine zOd (K:=fun w s'=>zwE rs s' fun ws s''=>K (w::ws) s'') h hr fun σ' w u s' t' hx hr' hw h1=>?_
  exact zIF h1 hr' fun σ'' ws us s'' t'' hx' hr'' hws h2=>hk σ'' (w::ws) (u::us) s'' t'' (hx.trans hx') hr'' ⟨hw.ext hx',hws⟩ h2
theorem zCJ {v:V} (h:zJx v s=some y):y = .rt v s.n s.H:=by
 obtain⟨nl,tl,L,bx,n,H,g⟩:=s
 exact(Option.some.inj h).symm
theorem OVR.ofW {w:W} {u:Value} (h:WR σ w u):OVR σ (V.ofW w) u:=by cases w<;>exact h
theorem zOT {ws:List W} {us:List Value} (h:zzf ws s=some y) (hr:SR σ s t) (hws:All2 (WR σ) ws us) {v:V} {n':Nat} {H':T O} (hy:y = .rt v n' H'):zNm us t fun u M'=>σ.length=n'∧OVR σ v u∧HR σ H' M':=by
 obtain⟨fr,bx,M⟩:=t
 match ws,us,hws with
 | [w],[u],hws=>
  have:=zCJ (v:=V.ofW w) h
  rw[hy] at this
  cases this
  exact⟨hr.n.symm,OVR.ofW hws.1,hr.h⟩
 | [],[],_=>
  have:=zCJ (v := .tp []) h
  rw[hy] at this
  cases this
  exact⟨hr.n.symm,⟨[],trivial,rfl⟩,hr.h⟩
 | w::w'::ws,u::u'::us,hws=>
  have:=zCJ (v := .tp (w::w'::ws)) h
  rw[hy] at this
  cases this
  exact⟨hr.n.symm,⟨_,hws,rfl⟩,hr.h⟩
 | [_],_::_::_,h=>exact h.2.elim
 | _::_::_,[_],h=>exact h.2.elim
theorem zEI:∀ (n:Nat) (K:List (Option V)→R),zJy n K=K (List.replicate n none)
 | 0,_=>rfl
 | n+1,K=>zEI n fun r=>K (none::r)
theorem zIG:∀ {ws:List W} {L:List (Option V)} {K:List (Option V)→R},zJz ws L K=some y→ws.length≤L.length∧K (ws.map (fun w=>some (V.ofW w))++L.drop ws.length)=some y
 | [],_,_,h=>⟨Nat.zero_le _,h⟩
 | _::_,[],_,h=>by cases h
 | w::ws,a::L,K,h=>by
  obtain⟨h1,h2⟩:=zIG (ws:=ws) (L:=L) (K:=fun r=>K (some (V.ofW w)::r)) h
  exact⟨Nat.succ_le_succ h1,h2⟩
theorem args0_lk:∀ {vs:List Value} {i d:Nat} {v:Value},vs[d]? = some v→lk (zoj i vs) (i+d)=some (ze7 v)
 | v::vs,i,0,u,h=>by
  show lk ((i,ze7 v)::zoj (i+1) vs) (i+0)=_
  rw[zpa,if_pos (by simp)]
  simp at h;rw[h]
 | v::vs,i,d+1,u,h=>by
  show lk ((i,ze7 v)::zoj (i+1) vs) (i+(d+1))=_
  rw[zpa,if_neg (by omega),show i+(d+1)=i+1+d by omega]
  exact args0_lk (by simpa using h)
 | [],_,_,_,h=>by simp at h
theorem zOe (hF:FOk P F) {N:Nat} {f:FC} {ws:List W} {n:Nat} {H:T O} (h:body F N f ws n H=some y) {v:V} {n':Nat} {H':T O} (hy:y = .rt v n' H') {σ:List E} {M:Mem} {vs:List Value} (hn:σ.length=n) (hh:HR σ H M) (hws:All2 (WR σ) ws vs) :
  ws.length≤f.nl∧zi P f.c f.rs vs M fun u M'=>∃ τ,(σ++τ).length=n'∧OVR (σ++τ) v u∧HR (σ++τ) H' M':=by
 obtain⟨nl,c,rs⟩:=f
 have h':(zJy nl fun L=>zJz ws L fun L'=>zm9 F N c ⟨nl,[],L',[],n,H,none⟩ fun e s=>X.rec (zwE rs s zzf) (zwE rs s zzf) (fun _=>fail) e)=some y:=h
 rw[zEI] at h'
 obtain⟨h1,h2⟩:=zIG h'
 rw[List.length_replicate] at h1
 refine⟨h1,?_⟩
 show z9 _ _
 rw[zI]
 have hs:SR σ ⟨nl,[],ws.map (fun w=>some (V.ofW w))++(List.replicate nl none).drop ws.length,[],n,H,none⟩ ⟨zoj 0 vs,[],M⟩:=by
  refine⟨hn.symm,fun d u hd=>?_,trivial,hh⟩
  rw[zng] at hd
  split at hd
  ·cases hd
  ·by_cases hdl:d<ws.length
   ·rw[List.getElem?_append_left (by simpa using hdl),List.getElem?_map] at hd
    obtain⟨w,hw⟩:∃ w,ws[d]? = some w:=⟨_,List.getElem?_eq_getElem hdl⟩
    rw[hw] at hd
    simp at hd
    subst hd
    obtain⟨u,hu,hwu⟩:=hws.at_ hw
    refine⟨by cases w<;>simp[V.ofW],ze7 u,?_,zuP hwu⟩
    have:=args0_lk (i:=0) hu
    rwa [Nat.zero_add] at this
   ·rw[List.getElem?_append_right (by simpa using hdl)] at hd
    simp only[List.length_map,List.getElem?_drop,List.getElem?_replicate] at hd
    split at hd<;>simp at hd
 refine znX hF N c h2 hs fun e σ' s' t' hx hr' h3=>?_
 have fin:zwE rs s' zzf=some y→zBK rs t' fun u M'=>∃ τ,(σ++τ).length=n'∧OVR (σ++τ) v u∧HR (σ++τ) H' M':=fun h4=>by
  refine zIF h4 hr' fun σ'' ws' us s'' t'' hx' hr'' hws' h5=>?_
  have:=zOT h5 hr'' hws' hy
  obtain⟨τ,rfl⟩:=(hx.trans hx').σ
  obtain⟨fr,bx,M2⟩:=t''
  match us,this with
  | [u],this=>exact⟨τ,this⟩
  | [],this=>exact⟨τ,this⟩
  | _::_::_,this=>exact⟨τ,this⟩
 cases e with
 | normal=>exact fin h3
 | ret=>exact fin h3
 | exit i=>cases h3
def Prim (P:Program) (g:Nat) (p:List W→Nat→T O→R):Prop:=∀ {ws:List W} {n:Nat} {H:T O} {v:V} {n':Nat} {H':T O},p ws n H=some (.rt v n' H') →
 ∀ {σ:List E} {M:Mem} {vs:List Value},σ.length=n→HR σ H M→All2 (WR σ) ws vs→CallsM P g vs M fun u M'=>∃ τ,(σ++τ).length=n'∧OVR (σ++τ) v u∧HR (σ++τ) H' M'
theorem zLV {prim:T (List W→Nat→T O→R)} {tab:T FC} {N:Nat} (hp:∀ g p,prim.get g=some p→Prim P g p) (htab:∀ g f,tab.get g=some f→∀ {args:List Value} {M:Mem} {R:Value→Mem→Prop},args.length≤f.nl→zi P f.c f.rs args M R→CallsM P g args M R):∀ d,FOk P (run prim tab N d)
 | 0=>fun h _ _ _ _=>by cases h
 | d+1=>by
  intro h v n' H' hy σ M vs hn hh hws
  rename_i g ws n H y
  have h':(Option.rec (oV (tab.get g) fun f=>body (run prim tab N d) N f ws n H) (fun p=>p ws n H) (prim.get g):R)=some y:=h
  cases hg:prim.get g with
  | some p=>
   rw[hg] at h'
   subst hy
   exact hp g p hg h' hn hh hws
  | none=>
   rw[hg] at h'
   obtain⟨f,h1,h2⟩:=ziL (K:=fun f=>body (run prim tab N d) N f ws n H) h'
   obtain⟨h3,h4⟩:=zOe (zLV hp htab d) h2 hy hn hh hws
   exact htab _ f h1 (by rw[←hws.len];exact h3) h4
end
def T.All {α:Type} (p:Nat→α→Prop):T α→Prop
 | .e=>True
 | .n l v r=>(∀ x,v=some x→p 0 x)∧l.All (fun k x=>p (2*k+1) x)∧r.All (fun k x=>p (2*k+2) x)
theorem T.All.get {α:Type}:∀ {t:T α} {p:Nat→α→Prop},t.All p→∀ {k:Nat} {x:α},t.get k=some x→p k x
 | .e,_,_,_,_,h=>by cases h
 | .n l v r,p,ha,0,x,h=>ha.1 x h
 | .n l v r,p,ha,m+1,x,h=>by
  rw[T.get_1] at h
  split at h
  ·rename_i hm
   have hm':m % 2=1:=Nat.eq_of_beq_eq_true hm
   have:=ha.2.2.get h
   rwa [show 2*(m / 2)+2=m+1 by omega] at this
  ·rename_i hm
   have hm':m % 2≠1:=fun e=>by rw[e] at hm;exact hm rfl
   have:=ha.2.1.get h
   rwa [show 2*(m / 2)+1=m+1 by omega] at this
theorem T.All.nil {α:Type} {p:Nat→α→Prop}:(T.e:T α).All p:=trivial
theorem T.All.no {α:Type} {p:Nat→α→Prop} {l r:T α} (hl:l.All fun k x=>p (2*k+1) x) (hr:r.All fun k x=>p (2*k+2) x):(T.n l none r).All p:=⟨fun _ h=>(by cases h),hl,hr⟩
theorem T.All.at {α:Type} {p:Nat→α→Prop} {l r:T α} {x:α} (hx:p 0 x) (hl:l.All fun k x=>p (2*k+1) x) (hr:r.All fun k x=>p (2*k+2) x):(T.n l (some x) r).All p:=⟨fun _ h=>(by cases h;exact hx),hl,hr⟩
def Worth (P:Program) (g:Nat) (f:FC):Prop:=∀ {args:List Value} {M:Mem} {R:Value→Mem→Prop},args.length≤f.nl→zi P f.c f.rs args M R→CallsM P g args M R
theorem run_ok {P:Program} {prim:T (List W→Nat→T O→R)} {tab:T FC} (hp:prim.All (Prim P)) (h:tab.All (Worth P)) (N d:Nat):FOk P (run prim tab N d):=zLV (fun g p hg=>T.All.get hp hg) (fun g f hg=>T.All.get h hg) d
end
end Go.Vm.Rn
namespace Go.Proofs.YtdogcflaekkdkaaGreat
open Go Go.Vm
attribute [local irreducible] Brn Ob Grow CallsM inR zc4 zcB Mem.row Mem.cells Mem.setCells Mem.upd Go.Vm.Own zfl zkD zi2 zhp New SrcOk zaa NewSl Mem.textAt Mem.mapAt Mem.iterAt zcA kfind Wr zkr Elems
set_option maxRecDepth 10000
section
variable {M:Mem}
theorem zFJ {a b:Nat} (ha:a<2147483648) (hb:b<2147483648):zY .xor .u32 (a:Int) (b:Int)=((a ^^^ b:Nat):Int):=(Rn.bits_nat (q := .u32) (Nat.lt_of_lt_of_le ha (by decide)) (Nat.lt_of_lt_of_le hb (by decide))).2.2
theorem zEJ {a:Nat} (ha:a<2147483648):zY .and .u32 (a:Int) 1=((a % 2:Nat):Int):=by
 have h:=(Rn.bits_nat (q := .u32) (a:=a) (b:=1) (Nat.lt_of_lt_of_le ha (by decide)) (by decide)).1
 rw[show ((1:Nat):Int)=1 from rfl] at h
 rw[h]
 exact congrArg Nat.cast (Nat.and_one_is_mod a)
theorem zJI {r:Nat} (hr:r<65536):CallsM Tryz.prog F.zgz [.int .u32 r,.int .u32 33800] M fun v M'=>v = .int .u32 (dnN r:Nat)∧M=M':=by
 have hd:(r:Int).fdiv (2 ^ (min (Int.toNat 1) (IntKind.bits .u32)))=((r / 2:Nat):Int):=by
  rw[show (2:Int) ^ (min (Int.toNat 1) (IntKind.bits .u32))=2 from rfl,Int.fdiv_eq_ediv_of_nonneg _ (by decide)];rfl
 refine zDN (by simp) ?_
 (conv=>whnf);refine brn (fun g=>?_) (fun g=>?_)
 ·have g':=Zd0 g
  rw[zEJ (by omega)] at g'
  refine zR ?_
  refine⟨?_,rfl⟩
  rw[hd]
  have h2:=zFJ (a:=r / 2) (b:=33800) (by omega) (by omega)
  erw [h2]
  unfold dnN;rw[if_pos (by omega)]
 ·have g':=Zd1 g
  rw[zEJ (by omega)] at g'
  refine zR ?_
  refine⟨?_,rfl⟩
  rw[hd]
  unfold dnN;rw[if_neg (by omega)]
theorem zJJ {r:Nat} (hr:r<65536) (b:UInt8):CallsM Tryz.prog F.zjb [.int .u16 r,zy b] M fun v M'=>v = .int .u16 (zuM r b:Nat)∧M=M':=by
 have hb:=UInt8.toNat_lt b
 have h0:zY .xor .u16 (r:Int) (IntKind.u16.wrap (b.toNat:Int))=((r ^^^ b.toNat:Nat):Int):=by
  rw[show IntKind.u16.wrap (b.toNat:Int)=((b.toNat:Nat):Int) by simp[IntKind.wrap,IntKind.signed,IntKind.bits];omega]
  exact(Rn.bits_nat (q := .u16) (Nat.lt_of_lt_of_le hr (by decide)) (Nat.lt_of_lt_of_le hb (by decide))).2.2
 have hx:r ^^^ b.toNat<65536:=Nat.xor_lt_two_pow (n:=16) (by omega) (by omega)
 have h1:IntKind.u32.wrap ((r ^^^ b.toNat:Nat):Int)=((r ^^^ b.toNat:Nat):Int):=by simp[IntKind.wrap,IntKind.signed,IntKind.bits];omega
 refine zDJ (by simp) ?_
 (conv=>whnf)
 refine zp9 (σ:=Nat) [11,5] (fun q=>[(11,.int .i64 q),(5,.int .u32 (zf8 (r ^^^ b.toNat) q:Nat))]) (fun q=>q≤8) (fun q=>8 - q) 0 (by omega) ?_ ?_
 ·erw [h0,h1];exact zS
 intro q hq
 have hq':=zuN hx q
 (conv=>whnf);refine brn (fun g3=>?_) (fun g3=>?_)
 ·have hlt3:q<8:=by have:=Zd0 g3;omega
  refine zR ?_
  refine(zJI hq').mono ?_
  rintro v _ ⟨rfl,rfl⟩
  refine zR ?_
  refine ob (zu (by first|omega|(dsimp only;omega))) ?_
  (conv=>whnf)
  exact⟨q+1,by omega,by omega,zS⟩
 ·have hge:q=8:=by have:=Zd1 g3;omega
  subst hge
  refine zR ?_
  refine⟨?_,rfl⟩
  rw[show IntKind.u16.wrap ((zf8 (r ^^^ b.toNat) 8:Nat):Int)=((zf8 (r ^^^ b.toNat) 8:Nat):Int) by simp[IntKind.wrap,IntKind.signed,IntKind.bits];omega]
  rfl
end
section
variable {M:Mem}
theorem zMJ {r:Nat} (h:r<65536):65535 ^^^ r=65535 - r:=by
 have h1:=congrArg BitVec.toNat (BitVec.allOnes_xor (x:=BitVec.ofNat 16 r))
 rw[BitVec.toNat_xor,BitVec.toNat_not,BitVec.toNat_ofNat,BitVec.toNat_allOnes,Nat.mod_eq_of_lt h] at h1
 exact h1
theorem zOf (x y:UInt8):zY .or .u16 (IntKind.u16.wrap (x.toNat:Int)) (IntKind.u16.wrap (IntKind.u16.wrap (y.toNat:Int)*2 ^ min (Int.toNat 8) IntKind.u16.bits))=((256*y.toNat+x.toNat:Nat):Int):=by
 have hX:=UInt8.toNat_lt x
 have hY:=UInt8.toNat_lt y
 have h1:IntKind.u16.wrap (x.toNat:Int)=((x.toNat:Nat):Int):=by simp[IntKind.wrap,IntKind.signed,IntKind.bits];omega
 have h2:IntKind.u16.wrap (IntKind.u16.wrap (y.toNat:Int)*2 ^ min (Int.toNat 8) IntKind.u16.bits)=((256*y.toNat:Nat):Int):=by simp[IntKind.wrap,IntKind.signed,IntKind.bits];omega
 rw[h1,h2,(Rn.bits_nat (q := .u16) (a:=x.toNat) (b:=256*y.toNat) (show x.toNat<65536 by omega) (show 256*y.toNat<65536 by omega)).2.1]
 have h3:=Nat.shiftLeft_add_eq_or_of_lt (i:=8) (b:=x.toNat) (by omega) y.toNat
 rw[Nat.shiftLeft_eq,show (2:Nat) ^ 8=256 from rfl] at h3
 refine congrArg Nat.cast ?_
 show x.toNat ||| (256*y.toNat)=_
 rw[Nat.or_comm,Nat.mul_comm 256]
 omega
def zOU (l:List UInt8):Nat→Nat
 | 0=>65535
 | _+1=>zmi l
theorem zMK {b E:Nat} {a:Option Addr} {n c:Nat} {l:List UInt8} (hb:M.has b E [.slice a n c]) (hs:SrcOk M 1 a n (l.map zy)) (hn:n≤4194304) :
  CallsM Tryz.prog F.ziD [.slice (some ⟨b,0,none⟩) 1 1] M fun v M'=>v = .int .u16 (zcy l:Nat)∧M=M':=by
 refine zE7 (by simp) ?_
 have hl:=hs.maplen
 (conv=>whnf)
 refine zp9 (σ:=Nat) [10,3] (fun i=>[(10,.int .i64 i),(3,.int .u16 (zOU l i:Nat))]) (fun i=>i≤1) (fun i=>1 - i) 0 (by omega) zS ?_
 intro i hi
 (conv=>whnf);refine brn (fun g=>?_) (fun g=>?_)
 ·have hlt:i=0:=by have:=Zd0 g;omega
  subst hlt
  (conv=>whnf);refine ob (by decide) ?_
  (conv=>whnf);refine on (hb.c1 rfl) ?_
  refine zR ?_
  refine zp9 (σ:=Nat) [16,3] (fun j=>[(16,.int .i64 j),(3,.int .u16 (zmi (l.take j):Nat))]) (fun j=>j≤n) (fun j=>n - j) 0 (by omega) zS ?_
  intro j hj
  (conv=>whnf);refine brn (fun g2=>?_) (fun g2=>?_)
  ·have hlt2:j<n:=by have:=Zd0 g2;omega
   obtain⟨hk,b2,o2,ha2,hr2⟩:=hs.at hlt2
   have htk2:l.take (j+1)=l.take j++[l[j]]:=by rw[List.take_add_one,List.getElem?_eq_getElem hk];rfl
   (conv=>whnf);refine ob (by first|omega|(dsimp only;omega)) ?_
   (conv=>whnf);refine atp ha2 ?_
   (conv=>whnf);refine on hr2 ?_
   refine zR ?_
   refine(zJJ (zri _) _).mono ?_
   rintro v _ ⟨rfl,rfl⟩
   refine zR ?_
   refine ob (zu (by first|omega|(dsimp only;omega))) ?_
   (conv=>whnf)
   refine⟨j+1,by omega,by omega,?_⟩
   rw[htk2,zAk]
   exact zS
  ·have hge:j=n:=by have:=Zd1 g2;omega
   subst hge
   refine zR ?_
   refine ob (zu (by decide)) ?_
   (conv=>whnf)
   refine⟨1,by omega,by omega,?_⟩
   rw[List.take_of_length_le (by omega)]
   exact zS
 ·have hge:i=1:=by have:=Zd1 g;omega
  subst hge
  refine zR ?_
  refine⟨?_,rfl⟩
  have:=zri l
  have e:=(Rn.bits_nat (q := .u16) (a:=65535) (b:=zmi l) (by decide) (Nat.lt_of_lt_of_le this (by decide))).2.2
  have e2:((Nat.xor 65535 (zmi l):Nat):Int)=((zcy l:Nat):Int):=congrArg Nat.cast (zMJ this)
  exact congrArg (Value.int .u16) (Eq.trans e e2)
theorem zIH {a:Option Addr} {n c:Nat} {l:List UInt8} (hs:SrcOk M 1 a n (l.map zy)) (hn:n≤4194304) (hc:n≤c) :
  CallsM Tryz.prog F.zhG [.slice a n c] M fun v M'=>v = .bool (zhw l)∧M.le M':=by
 refine zCc (by simp) ?_
 have hl:=hs.maplen
 refine zR ?_
 refine ob (zu (by first|omega|(dsimp only;omega))) ?_
 (conv=>whnf)
 refine⟨M,Mem.le_refl _,?_⟩
 (conv=>whnf);refine brn (fun g=>?_) (fun g=>?_)
 ·have g':=Zd0 g
  have e1:((n:Int) - 2).toNat=n - 2:=by omega
  have e2:((n:Int) - 2+1).toNat=n - 1:=by omega
  obtain⟨hk,b,o,ha,hr⟩:=hs.at (i:=n - 2) (by omega)
  obtain⟨hk2,b',o',ha',hr2⟩:=hs.at (i:=n - 1) (by omega)
  rw[ha] at ha'
  cases ha'
  obtain⟨x,hx⟩:∃ x,x=l[n - 2]:=⟨_,rfl⟩
  obtain⟨y,hy⟩:∃ y,y=l[n - 1]:=⟨_,rfl⟩
  rw[←hx,←e1] at hr
  rw[←hy,←e2] at hr2
  (conv=>whnf);refine ob (by first|omega|(dsimp only;omega)) ?_
  (conv=>whnf);refine ob (by first|omega|(dsimp only;omega)) ?_
  (conv=>whnf);refine atp ha ?_
  (conv=>whnf);refine on hr ?_
  (conv=>whnf);refine ob (zu (by first|omega|(dsimp only;omega))) ?_
  (conv=>whnf);refine ob (by first|omega|(dsimp only;omega)) ?_
  (conv=>whnf);refine atp ha ?_
  (conv=>whnf);refine on hr2 ?_
  (conv=>whnf);refine ob (by decide) ?_
  refine zR ?_
  (conv=>whnf);refine new (fun q hq=>?_)
  replace hq:M q=none:=hq
  have hle:M.le (M.setCells q 30 [.slice (zaa a (Int.toNat 0) c 1) (((n:Int) - 2).toNat - Int.toNat 0) (c - Int.toNat 0)]):=Mem.le_setCells hq
  refine zR ?_
  have hsub:=(hs.subm (lo:=0) (hi:=((n:Int) - 2).toNat) (by omega) (by omega) hc).le hle
  (conv=>whnf);refine(zMK (l:=(l.drop 0).take (((n:Int) - 2).toNat - 0)) Mem.has_setCells hsub (by omega)).mono ?_
  rintro v _ ⟨rfl,rfl⟩
  (conv=>whnf);refine grow_same hle ?_
  (conv=>whnf)
  refine⟨?_,hle⟩
  congr 1
  rw[e1,List.drop_zero,Nat.sub_zero]
  unfold zhw
  have hfl:zcy (l.take (n - 2))<65536:=by unfold zcy;omega
  rw[hl,List.getD_eq_getElem?_getD,List.getElem?_eq_getElem hk,List.getD_eq_getElem?_getD,List.getElem?_eq_getElem hk2,Option.getD_some,Option.getD_some,←hx,←hy]
  have hX:=UInt8.toNat_lt x
  have hY:=UInt8.toNat_lt y
  rw[zOf x y]
  exact decide_eq_decide.2 (by omega)
 ·have g':=Zd1 g
  refine zR ?_
  (conv=>whnf)
  exact⟨by rw[zhw,decide_eq_false (by omega)],Mem.le_refl _⟩
end
section
variable {M:Mem}
def zcd (q:List UInt8) (t:Bool) (r:List UInt8):Option (List UInt8):=(zbN t r).map (q ++ ·)
theorem zAn (q:List UInt8) (r:List UInt8):zcd q false (125::r)=zcd q true r:=rfl
theorem zAo {q:List UInt8} {x:UInt8} {r:List UInt8} (h1:x≠126) (h2:x≠125):zcd q false (x::r)=zcd (q++[x]) false r:=by
 unfold zcd
 rw[zbN,if_neg h1,if_neg (by decide),if_neg h2]
 cases zbN false r<;>simp
theorem zqc {q:List UInt8} {x:UInt8} {r:List UInt8} (h:x=94∨x=93):zcd q true (x::r)=zcd (q++[x ^^^ 32]) false r:=by
 unfold zcd
 rw[zbN,if_neg (by rcases h with rfl|rfl<;>decide),if_pos rfl,if_pos h]
 cases zbN false r<;>simp
theorem zyf {q:List UInt8} {t:Bool} {r:List UInt8}:zcd q t (126::r)=none:=by unfold zcd;rw[zbN,if_pos rfl];rfl
theorem zAp {q:List UInt8} {x:UInt8} {r:List UInt8} (h:¬(x=94∨x=93)):zcd q true (x::r)=none:=by
 unfold zcd
 rw[zbN]
 split
 ·rfl
 ·rw[if_pos rfl]
  rfl
theorem zII {q:List UInt8}:zcd q true []=none:=rfl
theorem znv {x:UInt8} {n:Nat} (hn:n<256):((x.toNat:Int)=(n:Int))↔x=UInt8.ofNat n:=by
 constructor
 ·intro h
  rw[←UInt8.ofNat_toNat (x:=x)]
  congr 1
  omega
 ·rintro rfl
  rw[UInt8.toNat_ofNat',Nat.mod_eq_of_lt hn]
theorem zsc (x:UInt8):Value.int .u8 (zY .xor .u8 (x.toNat:Int) 32)=zy (x ^^^ 32):=by
 have:=UInt8.toNat_lt x
 have h:=(Rn.bits_nat (q := .u8) (a:=x.toNat) (b:=32) (show x.toNat<256 by omega) (by decide)).2.2
 rw[show ((32:Nat):Int)=32 from rfl] at h
 rw[h]
 rfl
theorem zJK {a:Option Addr} {n c:Nat} {l:List UInt8} (hs:SrcOk M 1 a n (l.map zy)) (hn:n≤4194304) :
  CallsM Tryz.prog F.zcG [.slice a n c] M fun v M'=>M.le M'∧((zbN false l=none∧v = .tuple #[.slice none 0 0,.int .i64 2])∨∃ q a' c',zbN false l=some q∧v = .tuple #[.slice a' q.length c',.int .i64 0]∧NewSl M T.zE 1 a' q.length c' (q.map zy) M'):=by
 refine zwt (by simp) ?_
 have hl:=hs.maplen
 have hK0:zbN false l=zcd [] false l:=by unfold zcd;cases zbN false l<;>simp
 (conv=>whnf)
 refine zBC (σ:=Nat×Bool×List UInt8×Nat×Option Addr×Nat×Mem) [10,4,5] (fun y=>[(10,.int .i64 y.1),(4,.slice y.2.2.2.2.1 y.2.2.2.1 y.2.2.2.2.2.1),(5,.c (.v (.bool y.2.1)))]) (fun _=>[]) (fun y=>y.2.2.2.2.2.2)
  (fun|⟨i,t,q,k,a',c',Mc⟩=>i≤n∧k≤i∧NewSl M T.zE 1 a' k c' (q.map zy) Mc∧zbN false l=zcd q t (l.drop i)) (fun y=>n - y.1) ⟨0,false,[],0,none,0,M⟩ ⟨by omega,by omega,NewSl.none M _ _,hK0⟩ zS ?_
 rintro ⟨i,t,q,k,a',c',Mc⟩ ⟨hi,hq,hN,hK⟩
 have hqk:q.length=k:=by simpa using hN.src.maplen
 (conv=>whnf);refine brn (fun e=>?_) (fun e=>?_)
 ·have hlt:i<n:=by have:=Zd0 e;dsimp only at this;omega
  obtain⟨hk1,b1,o1,e1,hr1⟩:=(hs.le hN.le).at hlt
  rw[List.drop_eq_getElem_cons hk1] at hK
  generalize l[i]=x at *
  have hx:=UInt8.toNat_lt x
  (conv=>whnf);refine ob (by first|omega|(dsimp only;omega)) ?_
  (conv=>whnf);refine atp e1 ?_
  (conv=>whnf);refine on hr1 ?_
  (conv=>whnf);refine brn (fun g=>?_) (fun g=>?_)
  ·have g':x=126:=(znv (n:=126) (by decide)).1 (Zd0 g)
   subst g'
   refine zR ?_
   refine⟨hN.le,.inl ⟨by rw[hK,zyf],rfl⟩⟩
  have hne:x≠126:=fun e=>Zd1 g (by subst e;rfl)
  cases t
  case true=>
   (conv=>whnf);refine brn (fun k1=>?_) (fun k1=>?_)
   ·(conv=>whnf)
    refine brn (fun k2=>?_) (fun k2=>?_)
    ·have n1:x≠94:=fun e=>by subst e;cases k1
     have n2:x≠93:=fun e=>by subst e;cases k2
     rw[zAp (by simp[n1,n2])] at hK
     refine zR ?_
     exact⟨hN.le,.inl ⟨hK,rfl⟩⟩
    ·have hx1:x=93:=(znv (n:=93) (by decide)).1 (by simpa using k2)
     have h2:x=94∨x=93:=by first|exact .inl hx1|exact .inr hx1
     rw[zqc h2] at hK
     refine zR ?_
     refine zqG M _ hN (by first|omega|(dsimp only;omega)) (by unfold maxLen;dsimp only;omega) (by intro u hu;simp at hu;subst hu;rfl) (fun a2 c2 M2 h4=>?_)
     rw[show [Value.int IntKind.u8 (zY BinOp.xor IntKind.u8 (x.toNat:Int) 32)]=[x ^^^ 32].map zy from congrArg (fun v=>[v]) (zsc x),←List.map_append] at h4
     refine zR ?_
     refine ob (zu (by first|omega|(dsimp only;omega))) ?_
     (conv=>whnf)
     exact⟨⟨i+1,false,q++[x ^^^ 32],k+1,a2,c2,M2⟩,⟨by omega,by omega,h4,hK⟩,by dsimp only;omega,zS⟩
   ·have hx1:x=94:=(znv (n:=94) (by decide)).1 (by simpa using k1)
    have h2:x=94∨x=93:=by first|exact .inl hx1|exact .inr hx1
    rw[zqc h2] at hK
    refine zR ?_
    refine zqG M _ hN (by first|omega|(dsimp only;omega)) (by unfold maxLen;dsimp only;omega) (by intro u hu;simp at hu;subst hu;rfl) (fun a2 c2 M2 h4=>?_)
    rw[show [Value.int IntKind.u8 (zY BinOp.xor IntKind.u8 (x.toNat:Int) 32)]=[x ^^^ 32].map zy from congrArg (fun v=>[v]) (zsc x),←List.map_append] at h4
    refine zR ?_
    refine ob (zu (by first|omega|(dsimp only;omega))) ?_
    (conv=>whnf)
    exact⟨⟨i+1,false,q++[x ^^^ 32],k+1,a2,c2,M2⟩,⟨by omega,by omega,h4,hK⟩,by dsimp only;omega,zS⟩
  case false=>
   (conv=>whnf);refine brn (fun k1=>?_) (fun k1=>?_)
   ·have hx1:x=125:=(znv (n:=125) (by decide)).1 (Zd0 k1)
    subst hx1
    rw[zAn] at hK
    refine zR ?_
    refine ob (zu (by first|omega|(dsimp only;omega))) ?_
    (conv=>whnf)
    exact⟨⟨i+1,true,q,k,a',c',Mc⟩,⟨by omega,by omega,hN,hK⟩,by dsimp only;omega,zS⟩
   ·have hx1:x≠125:=fun e=>by subst e;cases k1
    rw[zAo hne hx1] at hK
    refine zR ?_
    refine zqG M _ hN (by first|omega|(dsimp only;omega)) (by unfold maxLen;dsimp only;omega) (zly [x]) (fun a2 c2 M2 h4=>?_)
    rw[show [zy x]=[x].map zy from rfl,←List.map_append] at h4
    refine zR ?_
    refine ob (zu (by first|omega|(dsimp only;omega))) ?_
    (conv=>whnf)
    exact⟨⟨i+1,false,q++[x],k+1,a2,c2,M2⟩,⟨by omega,by omega,h4,hK⟩,by dsimp only;omega,zS⟩
 ·have hge:i=n:=by have:=Zd1 e;dsimp only at this;omega
  subst hge
  rw[List.drop_of_length_le (by omega)] at hK
  cases t
  case true=>
   refine zR ?_
   exact⟨hN.le,.inl ⟨hK,rfl⟩⟩
  case false=>
   refine zR ?_
   subst hqk
   exact⟨hN.le,.inr ⟨q,a',c',by rw[hK];simp[zcd,zbN],rfl,hN⟩⟩
end
section
variable {M:Mem}
theorem zIJ {r:Nat} (hr:r<65536) (b:UInt8):CallsM Tryz.prog F.zmd [.int .u32 r,zy b,.int .u32 33800] M fun v M'=>v = .int .u32 (zuM r b:Nat)∧M=M':=by
 have hb:=UInt8.toNat_lt b
 have h0:zY .xor .u32 (r:Int) (IntKind.u32.wrap (b.toNat:Int))=((r ^^^ b.toNat:Nat):Int):=by
  rw[show IntKind.u32.wrap (b.toNat:Int)=((b.toNat:Nat):Int) by simp[IntKind.wrap,IntKind.signed,IntKind.bits];omega]
  exact zFJ (by omega) (by omega)
 have hx:r ^^^ b.toNat<65536:=Nat.xor_lt_two_pow (n:=16) (by omega) (by omega)
 refine zAL (by simp) ?_
 (conv=>whnf)
 refine zp9 (σ:=Nat) [7,0] (fun q=>[(7,.int .i64 q),(0,.int .u32 (zf8 (r ^^^ b.toNat) q:Nat))]) (fun q=>q≤8) (fun q=>8 - q) 0 (by omega) ?_ ?_
 ·erw [h0];exact zS
 intro q hq
 have hq':=zuN hx q
 (conv=>whnf);refine brn (fun g3=>?_) (fun g3=>?_)
 ·have hlt3:q<8:=by have:=Zd0 g3;omega
  have e1:(((zf8 (r ^^^ b.toNat) q:Nat):Int)).tmod 2=((zf8 (r ^^^ b.toNat) q % 2:Nat):Int):=rfl
  have e2:IntKind.u32.wrap ((((zf8 (r ^^^ b.toNat) q:Nat):Int)).tdiv 2)=((zf8 (r ^^^ b.toNat) q / 2:Nat):Int):=by
   rw[show (((zf8 (r ^^^ b.toNat) q:Nat):Int)).tdiv 2=((zf8 (r ^^^ b.toNat) q / 2:Nat):Int) from rfl]
   simp[IntKind.wrap,IntKind.signed,IntKind.bits];omega
  refine zR ?_
  (conv=>whnf);refine brn (fun k=>?_) (fun k=>?_)
  ·have k':=Zd0 k
   erw [e1] at k'
   erw [e2]
   have e3:=zFJ (a:=zf8 (r ^^^ b.toNat) q / 2) (b:=33800) (by omega) (by omega)
   (conv=>whnf)
   erw [e3]
   refine ob (zu (by first|omega|(dsimp only;omega))) ?_
   (conv=>whnf)
   refine⟨q+1,by omega,by omega,?_⟩
   rw[show zf8 (r ^^^ b.toNat) (q+1)=(zf8 (r ^^^ b.toNat) q / 2) ^^^ 33800 by rw[zf8,dnN,if_pos (by omega)]]
   exact zS
  ·have k':=Zd1 k
   erw [e1] at k'
   erw [e2]
   (conv=>whnf);refine ob (zu (by first|omega|(dsimp only;omega))) ?_
   (conv=>whnf)
   refine⟨q+1,by omega,by omega,?_⟩
   rw[show zf8 (r ^^^ b.toNat) (q+1)=zf8 (r ^^^ b.toNat) q / 2 by rw[zf8,dnN,if_neg (by omega)]]
   exact zS
 ·have hge:q=8:=by have:=Zd1 g3;omega
  subst hge
  refine zR ?_
  exact⟨rfl,rfl⟩
theorem zJL {a:Option Addr} {n c:Nat} {l:List UInt8} (hs:SrcOk M 1 a n (l.map zy)) (hn:n≤4194304) :
  CallsM Tryz.prog F.zgA [.slice a n c] M fun v M'=>v = .int .u16 (zmi l:Nat)∧M=M':=by
 refine zu5 (by simp) ?_
 have hl:=hs.maplen
 (conv=>whnf)
 refine zp9 (σ:=Nat) [4,3] (fun j=>[(4,.int .i64 j),(3,.int .u32 (zmi (l.take j):Nat))]) (fun j=>j≤n) (fun j=>n - j) 0 (by omega) zS ?_
 intro j hj
 (conv=>whnf);refine brn (fun g2=>?_) (fun g2=>?_)
 ·have hlt2:j<n:=by have:=Zd0 g2;omega
  obtain⟨hk,b2,o2,ha2,hr2⟩:=hs.at hlt2
  have htk2:l.take (j+1)=l.take j++[l[j]]:=by rw[List.take_add_one,List.getElem?_eq_getElem hk];rfl
  (conv=>whnf);refine ob (by first|omega|(dsimp only;omega)) ?_
  (conv=>whnf);refine atp ha2 ?_
  (conv=>whnf);refine on hr2 ?_
  refine zR ?_
  refine(zIJ (zri _) _).mono ?_
  rintro v _ ⟨rfl,rfl⟩
  refine zR ?_
  refine ob (zu (by first|omega|(dsimp only;omega))) ?_
  (conv=>whnf)
  refine⟨j+1,by omega,by omega,?_⟩
  rw[htk2,zAk]
  exact zS
 ·have hge:j=n:=by have:=Zd1 g2;omega
  subst hge
  rw[List.take_of_length_le (by omega)]
  have:=zri l
  (conv=>whnf)
  rw[show IntKind.u16.wrap ((zmi l:Nat):Int)=((zmi l:Nat):Int) by simp[IntKind.wrap,IntKind.signed,IntKind.bits];omega]
  exact⟨rfl,rfl⟩
theorem zJM {a:Option Addr} {n c:Nat} {l:List UInt8} (hs:SrcOk M 1 a n (l.map zy)) (hn:n≤4194304) :
  CallsM Tryz.prog F.znu [.slice a n c] M fun v M'=>v = .int .u16 (zcy l:Nat)∧M=M':=by
 refine zCd (by simp) ?_
 refine zR ?_
 refine(zJL hs hn).mono ?_
 rintro v _ ⟨rfl,rfl⟩
 have:=zri l
 (conv=>whnf)
 refine⟨?_,rfl⟩
 rw[show IntKind.u16.wrap (65535 - ((zmi l:Nat):Int))=((zcy l:Nat):Int) by unfold zcy;simp[IntKind.wrap,IntKind.signed,IntKind.bits];omega]
def zFK (l:List UInt8):List UInt8:=l++[UInt8.ofNat (zcy l % 256),UInt8.ofNat (zcy l / 256)]
theorem zEK (l:List UInt8):zcy l<65536:=by unfold zcy;omega
theorem zJN {a:Option Addr} {n c:Nat} {l:List UInt8} (hs:SrcOk M 1 a n (l.map zy)) (hn:n≤4194304) :
  CallsM Tryz.prog F.znt [.slice a n c] M fun v M'=>∃ a' c',v = .slice a' (n+2) c'∧NewSl M T.zE 1 a' (n+2) c' ((zFK l).map zy) M':=by
 refine zCb (by simp) ?_
 refine zR ?_
 refine(zJM hs hn).mono ?_
 rintro v _ ⟨rfl,rfl⟩
 have hf:=zEK l
 (conv=>whnf);refine new (fun b hb=>?_)
 replace hb:M b=none:=hb
 have hl:=hs.maplen
 have hN0:NewSl M T.zE 1 (some ⟨b,0,none⟩) 0 0 [] (M.setCells b T.zE []):=NewSl.lit hb T.zE 1 0 [] rfl
 obtain⟨M1,hM1⟩:∃ M1,M1=M.setCells b T.zE []:=⟨_,rfl⟩
 rw[←hM1] at hN0
 (conv=>whnf)
 erw [←hM1]
 refine zNG (hs.le hN0.le) ?_
 (conv=>whnf);refine zqG M _ hN0 (by omega) (by unfold maxLen;omega) (zly l) (fun a2 c2 M2 h2=>?_)
 rw[List.nil_append] at h2
 have e1:IntKind.u8.wrap (((zcy l:Nat):Int).tmod 256)=((UInt8.ofNat (zcy l % 256)).toNat:Int):=by
  rw[show ((zcy l:Nat):Int).tmod 256=((zcy l % 256:Nat):Int) from rfl,UInt8.toNat_ofNat']
  simp[IntKind.wrap,IntKind.signed,IntKind.bits]
 have e2:IntKind.u8.wrap (IntKind.u16.wrap (((zcy l:Nat):Int).tdiv 256))=((UInt8.ofNat (zcy l / 256)).toNat:Int):=by
  rw[show ((zcy l:Nat):Int).tdiv 256=((zcy l / 256:Nat):Int) from rfl,UInt8.toNat_ofNat']
  simp[IntKind.wrap,IntKind.signed,IntKind.bits]
 refine zR ?_
 (conv=>whnf)
 refine zqG M _ h2 (by omega) (by unfold maxLen;omega) (by intro u hu;simp at hu;rcases hu with rfl|rfl<;>rfl) (fun a3 c3 M3 h3=>?_)
 erw [e1,e2] at h3
 rw[show [Value.int IntKind.u8 ((UInt8.ofNat (zcy l % 256)).toNat:Int),Value.int IntKind.u8 ((UInt8.ofNat (zcy l / 256)).toNat:Int)]=[UInt8.ofNat (zcy l % 256),UInt8.ofNat (zcy l / 256)].map zy from rfl,←List.map_append,Nat.zero_add] at h3
 (conv=>whnf)
 rw[Nat.zero_add]
 exact⟨a3,c3,rfl,h3⟩
theorem zFL (q:List UInt8):zhw q=decide (2≤q.length∧zFK (q.take (q.length - 2))=q):=by
 unfold zhw
 refine decide_eq_decide.2 ⟨fun ⟨h1,h2,h3⟩=>⟨h1,?_⟩,fun ⟨h1,h2⟩=>⟨h1,?_⟩⟩
 ·unfold zFK
  rw[h2,h3,UInt8.ofNat_toNat,UInt8.ofNat_toNat]
  have h4:q.drop (q.length - 2)=[q.getD (q.length - 2) 0,q.getD (q.length - 1) 0]:=by
   rw[List.drop_eq_getElem_cons (by omega),List.drop_eq_getElem_cons (by omega),List.drop_of_length_le (by omega),List.getD_eq_getElem?_getD,List.getD_eq_getElem?_getD,List.getElem?_eq_getElem (by omega),List.getElem?_eq_getElem (by omega)]
   simp only[Option.getD_some,show q.length - 2+1=q.length - 1 by omega]
  rw[←h4,List.take_append_drop]
 ·have hf:=zEK (q.take (q.length - 2))
  unfold zFK at h2
  generalize zcy (q.take (q.length - 2))=f at *
  have h3:q.drop (q.length - 2)=[UInt8.ofNat (f % 256),UInt8.ofNat (f / 256)]:=by
   have h4:=congrArg (List.drop (q.length - 2)) h2
   rw[List.drop_append_of_le_length (by simp),List.drop_of_length_le (by simp),List.nil_append] at h4
   exact h4.symm
  rw[List.drop_eq_getElem_cons (by omega),List.drop_eq_getElem_cons (by omega)] at h3
  simp only[List.cons.injEq,show q.length - 2+1=q.length - 1 by omega] at h3
  rw[List.getD_eq_getElem?_getD,List.getD_eq_getElem?_getD,List.getElem?_eq_getElem (by omega),List.getElem?_eq_getElem (by omega),Option.getD_some,Option.getD_some,h3.1,h3.2.1,UInt8.toNat_ofNat',UInt8.toNat_ofNat']
  omega
end
end Go.Proofs.YtdogcflaekkdkaaGreat
