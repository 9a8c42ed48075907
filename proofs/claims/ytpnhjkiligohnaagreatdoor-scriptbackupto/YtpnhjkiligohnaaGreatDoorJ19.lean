/- Part of this proof;laid by program. -/
import Derived.Test.YtpnhjkiligohnaaGreatDoorJ18
set_option linter.unusedVariables false
set_option linter.unusedSimpArgs false
namespace Go.Vm.Rn
open Go.Vm
set_option linter.unusedVariables false
section
theorem zD {a b:Bool} (h:zQ a b=true):a=true∧b=true:=by cases a<;>cases b<;>first|exact⟨rfl,rfl⟩|cases h
theorem zK {a b:Nat} (h:Nat.beq a b=true):a=b:=Nat.eq_of_beq_eq_true h
theorem zpE {α:Type} {f:α→α→Bool} (hf:∀ a b,f a b=true→a=b):∀ {a b:List α},zsX f a b=true→a=b
 | [],[],_=>rfl
 | [],_::_,h=>by cases h
 | _::_,[],h=>by cases h
 | x::a,y::b,h=>by
  obtain⟨h1,h2⟩:=zD (a:=f x y) (b:=zsX f a b) h;rw[hf _ _ h1,zpE hf h2]
theorem zHz {a b:List Nat} (h:zuG a b=true):a=b:=by rw[ztA] at h;exact Zd0 h
theorem C.eqb_s {a b:C} (h:a.eqb b=true):a=b:=by
 unfold C.eqb at h;split at h
 ·obtain⟨h1,h2⟩:=zD h;have:=zq4 (a:=_) (b:=_)▸(show zp0 _ _=true from h1)
  have h3:=Zd0 this;have h4:=Zd0 (show decide _=true from h2)
  rw[h3,h4]
 ·rw[eq_of_beq h]
 ·rw[zHz h]
 ·obtain⟨h1,h2⟩:=zD h;rw[zK h1,zK h2]
 ·rfl
 ·obtain⟨h1,h2⟩:=zD h;obtain⟨h3,h4⟩:=zD h2;obtain⟨h5,h6⟩:=zD h4;rw[zK h1,zK h3,zK h5,zK h6]
 ·obtain⟨h1,h2⟩:=zD h;obtain⟨h3,h4⟩:=zD h2;obtain⟨h5,h6⟩:=zD h4;rw[zK h1,zK h3,zK h5,zK h6]
 ·rfl
 ·rw[zK h]
 ·rfl
 ·obtain⟨h1,h2⟩:=zD h;rw[zK h1,zK h2]
 ·rw[zK h]
 ·obtain⟨h1,h2⟩:=zD h;obtain⟨h3,h4⟩:=zD h2;rw[zK h1,zK h3,zK h4]
 ·obtain⟨h1,h2⟩:=zD h;obtain⟨h3,h4⟩:=zD h2;obtain⟨h5,h6⟩:=zD h4;obtain⟨h7,h8⟩:=zD h6;obtain⟨h9,h10⟩:=zD h8;rw[zK h1,zK h3,zK h5,zK h7,zK h9,eq_of_beq h10]
 ·rfl
 ·rfl
 ·obtain⟨h1,h2⟩:=zD h;obtain⟨h3,h4⟩:=zD h2;obtain⟨h5,h6⟩:=zD h4;have key:∀ {u v:Int},zHi u v=true→u=v:=fun {u v} h=>Zd0 (zq4 u v▸(show zp0 u v=true from h))
  rw[zK h1,key h3,key h5,key h6]
 ·cases h
theorem zli {a b:List C} (h:zoc a b=true):a=b:=zpE (fun _ _=>C.eqb_s) h
theorem W.eqb_s {a b:W} (h:a.eqb b=true):a=b:=by
 unfold W.eqb at h;split at h
 ·rw[C.eqb_s h]
 ·rw[zli h]
 ·obtain⟨h1,h2⟩:=zD h;rw[zK h1,zli h2]
 ·cases h
theorem V.eqb_s {a b:V} (h:a.eqb b=true):a=b:=by
 unfold V.eqb at h;split at h
 ·rw[C.eqb_s h]
 ·rw[zli h]
 ·obtain⟨h1,h2⟩:=zD h;rw[zK h1,zli h2]
 ·rw[zpE (fun _ _=>W.eqb_s) h]
 ·obtain⟨h1,h2⟩:=zD h;rw[zK h1,zK h2]
 ·rfl
 ·cases h
theorem En.eqb_s {a b:En} (h:a.eqb b=true):a=b:=by
 obtain⟨k,v,n⟩:=a;obtain⟨k',v',n'⟩:=b;obtain⟨h1,h2⟩:=zD (a:=k.eqb k') h;obtain⟨h3,h4⟩:=zD h2;rw[W.eqb_s h1,W.eqb_s h3,zK h4]
theorem zUz {a b:Option Nat} (h:oN a b=true):a=b:=by
 unfold oN at h;split at h
 ·rw[zK h]
 ·rfl
 ·cases h
theorem O.eqb_s {a b:O} (h:a.eqb b=true):a=b:=by
 unfold O.eqb at h;split at h
 ·obtain⟨h1,h2⟩:=zD h;rw[zK h1,zli h2]
 ·obtain⟨h1,h2⟩:=zD h;rw[zK h1,zli h2]
 ·obtain⟨h1,h2⟩:=zD h;obtain⟨h3,h4⟩:=zD h2;rw[zK h1,zK h3,zli h4]
 ·obtain⟨h1,h2⟩:=zD h;rw[zpE (fun _ _=>En.eqb_s) h1,zK h2]
 ·obtain⟨h1,h2⟩:=zD h;rw[zHz h1,zK h2]
 ·obtain⟨h1,h2⟩:=zD h;obtain⟨h3,h4⟩:=zD h2;obtain⟨h5,h6⟩:=zD h4;rw[zUz h1,zK h3,zHz h5,zK h6]
 ·cases h
theorem zRz {a b:Option O} (h:zF4 a b=true):a=b:=by
 unfold zF4 at h;split at h
 ·rw[O.eqb_s h]
 ·rfl
 ·cases h
theorem zCz:∀ {a b:T O},zHj a b=true→a=b
 | .e,.e,_=>rfl
 | .e,.n _ _ _,h=>by cases h
 | .n _ _ _,.e,h=>by cases h
 | .n l v r,.n l' v' r',h=>by
  obtain⟨h1,h2⟩:=zD (a:=zHj l l') (b:=zQ (zF4 v v') (zHj r r')) h;obtain⟨h3,h4⟩:=zD h2;rw[zCz h1,zRz h3,zCz h4]
theorem B.eqb_s {a b:B} (h:a.eqb b=true):a=b:=by
 unfold B.eqb at h;split at h
 ·obtain⟨h1,h2⟩:=zD h;rw[zK h1,zli h2]
 ·rw[zK h]
 ·cases h
theorem zS0 {a b:Nat×V} (h:zSO a b=true):a=b:=by
 obtain⟨d,v⟩:=a;obtain⟨d',v'⟩:=b;obtain⟨h1,h2⟩:=zD (a:=Nat.beq d d') h;rw[zK h1,V.eqb_s h2]
theorem zRA {a b:Option V} (h:zKu a b=true):a=b:=by
 unfold zKu at h;split at h
 ·rw[V.eqb_s h]
 ·rfl
 ·cases h
theorem S.eqb_s {a b:S} (h:a.eqb b=true):a=b:=by
 unfold S.eqb at h;split at h
 ·obtain⟨h1,h2⟩:=zD h;obtain⟨h3,h4⟩:=zD h2;obtain⟨h5,h6⟩:=zD h4;obtain⟨h7,h8⟩:=zD h6;obtain⟨h9,h10⟩:=zD h8;rw[zK h1,zK h3,zpE (fun _ _=>zS0) h5,zpE (fun _ _=>zRA) h7,zpE (fun _ _=>B.eqb_s) h9,zCz h10]
 ·cases h
theorem zNb {x z:R} {y:Out} (h:zOd x z=some y):x=some y∧z=some y:=by
 unfold zOd at h;obtain⟨a,h1,h2⟩:=zji h;obtain⟨b,h3,h4⟩:=zji h2;split at h4
 ·obtain⟨h5,h6⟩:=zx h4;obtain⟨h7,h8⟩:=zD h5;obtain⟨h9,h10⟩:=zD h8;have e1:=V.eqb_s h7
  have e2:=zK h9;have e3:=zCz h10
  subst e1 e2 e3;rw[h1,h3];exact⟨h6,h6⟩
 ·obtain⟨h5,h6⟩:=zx h4;have e1:=S.eqb_s h5
  subst e1;rw[h1,h3];exact⟨h6,h6⟩
 ·cases h4
section
variable {P:Program} {F:Cal} {σ:List E} {s:S} {t:St} {y:Out} {nb:Nat}
theorem mem_s {a:Nat}:∀ {l:List Nat},mem a l=true↔a∈l
 | []=>by constructor<;>intro h<;>cases h
 | x::l=>by
  show (Bool.rec (mem a l) true (Nat.beq x a):Bool)=true↔_;rw[zwS];by_cases h:x=a
  ·subst h;simp
  ·have:¬a=x:=fun e=>h e.symm
   simp[h,this,mem_s (a:=a) (l:=l)]
noncomputable def part (σ:List E) (H:T O) (M:Mem) (kp:List Nat):Mem:=fun b=>by
 classical exact if ∃ a∈kp,∃ o e,H.get a=some o∧σ[a]? = some e∧e.nil=false∧e.addr=b then M b else none
theorem part_le {σ:List E} {H:T O} {M:Mem} {kp:List Nat}:(part σ H M kp).le M:=fun b o h=>by
 unfold part at h;split at h
 ·exact h
 ·cases h
theorem zwT {σ:List E} {H:T O} {M:Mem} {kp:List Nat} {b:Nat} {x:Obj} (h:part σ H M kp b=some x):∃ a∈kp,∃ o e,H.get a=some o∧σ[a]? = some e∧e.nil=false∧e.addr=b∧M b=some x:=by
 unfold part at h;split at h
 ·rename_i hc;obtain⟨a,h1,o,e,h2,h3,h4,h5⟩:=hc;exact⟨a,h1,o,e,h2,h3,h4,h5,h⟩
 ·cases h
theorem zAD (h:HR σ s.H t.M) {kp:List Nat} {a:Nat} {o:O} (ha:a∈kp) (hg:s.H.get a=some o):∃ e,σ[a]? = some e∧OR σ e o (part σ s.H t.M kp):=by
 obtain⟨e,h1,h2⟩:=h.has a o hg;refine⟨e,h1,h2.frame fun hn=>?_⟩;unfold part;rw[if_pos ⟨a,ha,o,e,hg,h1,hn,rfl⟩]
theorem CRs.fn {l:List C} {vs vs':List Value} (h:All2 (CR σ) l vs) (h':All2 (CR σ) l vs'):vs=vs':=All2.fn (Q:=CR σ) (fun _ _ _ h h'=>CR.fn h h') h h'
theorem WR.fn {w:W} {v v':Value} (h:WR σ w v) (h':WR σ w v'):v=v':=by
 cases w with
 | c x=>exact CR.fn h h'
 | ag l=>obtain⟨vs,h1,rfl⟩:=h;obtain⟨vs',h2,rfl⟩:=h';rw[CRs.fn h1 h2]
 | fn g l=>obtain⟨vs,h1,rfl⟩:=h;obtain⟨vs',h2,rfl⟩:=h';rw[CRs.fn h1 h2]
theorem EnR.fn {e:En} {m m':MapEntry} (h:EnR σ e m) (h':EnR σ e m'):m=m':=by
 obtain⟨k,v,n⟩:=m;obtain⟨k',v',n'⟩:=m';obtain⟨h1,h2,h3⟩:=h;obtain⟨h4,h5,h6⟩:=h';have e1:k=k':=WR.fn h1 h4
 have e2:v=v':=WR.fn h2 h5;have e3:n=n':=h3.trans h6.symm
 rw[e1,e2,e3]
theorem OR.fn {e:E} {o:O} {M M':Mem} (h:OR σ e o M) (h':OR σ e o M') (hn:e.nil=false):M e.addr=M' e.addr:=by
 cases o with
 | row T l=>obtain⟨-, vs,h1,h2⟩:=h;obtain⟨-, vs',h3,h4⟩:=h';rw[h2,h4,CRs.fn h1 h3]
 | ro T l=>obtain⟨-, vs,h1,h2⟩:=h;obtain⟨-, vs',h3,h4⟩:=h';rw[h2,h4,CRs.fn h1 h3]
 | gr T z l=>
  obtain⟨vs,h1,h2⟩:=h;obtain⟨vs',h3,h4⟩:=h';rcases h2 with ⟨h2, -⟩|⟨-, h2, -⟩
  ·rw[hn] at h2;cases h2
  ·rcases h4 with ⟨h4, -⟩|⟨-, h4, -⟩
   ·rw[hn] at h4;cases h4
   ·rw[h2,h4,CRs.fn h1 h3]
 | mp es c=>obtain⟨-, vs,h1,h2⟩:=h;obtain⟨-, vs',h3,h4⟩:=h';rw[h2,h4,All2.fn (Q:=EnR σ) (fun _ _ _ h h'=>EnR.fn h h') h1 h3]
 | it m a s t=>
  obtain⟨-, x,h1,h2⟩:=h;obtain⟨-, x',h3,h4⟩:=h';rw[h2,h4];cases m with
  | none=>rw[show x=none from h1,show x'=none from h3]
  | some a=>
   obtain⟨e1,h5,rfl⟩:=h1;obtain⟨e2,h6,rfl⟩:=h3;rw[h5] at h6;cases h6;rfl
 | si l p=>rw[h.2,h'.2]
theorem zHA {H H':T O}:∀ {kp:List Nat},kept kp H H'=true→∀ a∈kp,∀ o,H.get a=some o→H'.get a=some o
 | [],_,a,ha,_,_=>by cases ha
 | x::kp,h,a,ha,o,ho=>by
  have h':(match H.get x with|none=>kept kp H H'|some o=>(match H'.get x with|some o'=>zQ (o.eqb o') (kept kp H H')|none=>false))=true:=h;cases hx:H.get x with
  | none=>
   rw[hx] at h';rcases List.mem_cons.1 ha with rfl|ha
   ·rw[hx] at ho;cases ho
   ·exact zHA h' a ha o ho
  | some ox=>
   rw[hx] at h';simp only at h';cases hx':H'.get x with
   | none=>rw[hx'] at h';cases h'
   | some ox'=>
    rw[hx'] at h';obtain⟨h1,h2⟩:=zD h';rcases List.mem_cons.1 ha with rfl|ha
    ·rw[hx] at ho;cases ho;rw[hx',O.eqb_s h1]
    ·exact zHA h2 a ha o ho
theorem SCR.fn {c:C} {x x':SC} (h:SCR σ nb c x) (h':SCR σ nb c x'):x=x':=by
 cases c with
 | b j o=>rw[h.2,h'.2]
 | _=>obtain⟨v,h1,rfl⟩:=h;obtain⟨v',h2,rfl⟩:=h';rw[h1] at h2;cases h2;rfl
theorem SCRs.fn {l:List C} {vs vs':List SC} (h:All2 (SCR σ nb) l vs) (h':All2 (SCR σ nb) l vs'):vs=vs':=All2.fn (Q:=SCR σ nb) (fun _ _ _ h h'=>SCR.fn h h') h h'
theorem BR.fn {b:B} {x x':BE} (hd:b ≠ .dark) (h:BR σ nb b x) (h':BR σ nb b x'):x=x':=by
 cases b with
 | dark=>exact absurd rfl hd
 | live T l=>obtain⟨cs,h1,rfl⟩:=h;obtain⟨cs',h2,rfl⟩:=h';rw[SCRs.fn h1 h2]
 | gone a=>obtain⟨e,h1,rfl⟩:=h;obtain⟨e',h2,rfl⟩:=h';rw[h1] at h2;cases h2;rfl
theorem zRB {l:List C} {vs:List Value} {xs:List SC} (h:All2 (CR σ) l vs) (h':All2 (SCR σ nb) l xs):zfh xs=some vs:=by
 have:xs=vs.map SC.v:=SCRs.fn h' (h.sc nb);subst this;clear h h'
 induction vs with
 | nil=>rfl
 | cons v vs ih=>show (zfh (vs.map SC.v)).map (v :: ·)=_;rw[ih];rfl
theorem zQz {H:T O} {M:Mem} (hH:HR σ H M) {A:Prop} (hA:A):∀ {f:List B} {e:List B} {fx ex:List BE},bxs H f e=true→All2 (BR σ nb) f fx→All2 (BR σ nb) e ex→zs7 M ex fx A
 | [],_,[],ex,_,_,_=>by cases ex<;>exact hA
 | f::fs,[],_,_,h,_,_=>by cases h
 | f::fs,e::es,fx::fxs,ex::exs,h,hf,he=>by
  have h':zQ (zKv H e f) (bxs H fs es)=true:=h;obtain⟨h1,h2⟩:=zD h';have h3:=zQz hH hA h2 hf.2 he.2
  show bx1 M ex fx (zs7 M exs fxs A)
  have same:e ≠ .dark→e=f→bx1 M ex fx (zs7 M exs fxs A):=fun hd hef=>by
   subst hef;have:=BR.fn hd hf.1 he.1
   subst this;cases fx<;>exact⟨rfl,h3⟩
  cases e with
  | dark=>cases f<;>cases h1
  | live T l=>
   cases f with
   | dark=>
    obtain⟨cs, -, h9⟩:=he.1;obtain⟨b,h10⟩:=hf.1;subst h9 h10;exact h3
   | live T' l'=>exact same (by simp) (B.eqb_s h1)
   | gone b=>cases h1
  | gone a=>
   cases f with
   | dark=>cases h1
   | gone b=>exact same (by simp) (B.eqb_s h1)
   | live T cs=>
    cases hg:H.get a with
    | none=>simp only[zKv,hg] at h1;cases h1
    | some ob=>
     simp only[zKv,hg] at h1;cases ob with
     | row T' cs'=>
      obtain⟨h4,h5⟩:=zD h1;have e1:=zK h4
      have e2:=zli h5;subst e1 e2;obtain⟨en,h6,h7⟩:=he.1;subst h7;obtain⟨xs,h8,h9⟩:=hf.1;subst h9;obtain⟨en',h10,h11⟩:=hH.has a _ hg;rw[h6] at h10;cases h10;obtain⟨-, vs,h12,h13⟩:=h11;show onO (zfh xs) _
      rw[zRB h12 h8];exact⟨h13,h3⟩
     | _=>cases h1
 | [],_,_::_,_,_,h,_=>h.elim
 | _::_,_,[],_,_,h,_=>h.elim
 | _::_,_::_,_::_,[],_,_,h=>h.elim
end
end
section
theorem zF8 (a b k:Nat):sw a b k=if k=a then b else if k=b then a else k:=by
 show (Bool.rec (Bool.rec k a (Nat.beq k b)) b (Nat.beq k a):Nat)=_;rw[zwS,zwS];by_cases h1:k=a
 ·simp[h1]
 ·rw[decide_eq_false h1,if_neg h1];by_cases h2:k=b
  ·rw[decide_eq_true h2,if_pos h2]
  ·rw[decide_eq_false h2,if_neg h2]
theorem zKG (a b k:Nat):sw a b (sw a b k)=k:=by
 simp only[zF8];by_cases h1:k=a
 ·by_cases h2:b=a<;>simp[h1,h2]
 ·by_cases h2:k=b
  ·simp[h2]
  ·simp[h1,h2]
def swL (σ:List E) (a b:Nat) (ea eb:E):List E:=(σ.set a eb).set b ea
theorem zS1 {σ:List E} {a b:Nat} {ea eb:E} (ha:σ[a]? = some ea) (hb:σ[b]? = some eb) (k:Nat):(swL σ a b ea eb)[k]? = σ[sw a b k]?:= by
 have la:=(List.getElem?_eq_some_iff.1 ha).1;have lb:=(List.getElem?_eq_some_iff.1 hb).1
 unfold swL;rw[zF8,List.getElem?_set,List.getElem?_set];by_cases h1:k=a
 ·subst h1;by_cases h2:b=k
  ·subst h2;rw[ha] at hb;cases hb;rw[if_pos rfl,if_pos rfl,if_pos (by simpa using la),ha]
  ·simp[h2,la,hb]
 ·have h1':¬a=k:=fun e=>h1 e.symm
  by_cases h2:k=b
  ·subst h2;simp[h1,lb,ha]
  ·have h2':¬b=k:=fun e=>h2 e.symm
   simp[h1,h2,h1',h2']
section
variable {σ σ':List E} {a b:Nat}
def Sw (σ σ':List E) (a b:Nat):Prop:=∀ k,σ'[k]? = σ[sw a b k]?
theorem Sw.to (h:Sw σ σ' a b) (k:Nat):σ'[sw a b k]? = σ[k]? := by rw[h,zKG]
theorem C.ren_s (h:Sw σ σ' a b) (c:C):(c.ren a b).val σ'=c.val σ:=by
 cases c<;>simp only[C.ren,C.val,h.to]
theorem CR.ren (h:Sw σ σ' a b) {c:C} {v:Value} (hc:CR σ c v):CR σ' (c.ren a b) v:=(C.ren_s h c).trans hc
theorem SCR.ren (h:Sw σ σ' a b) {nb:Nat} {c:C} {x:SC} (hc:SCR σ nb c x):SCR σ' nb (c.ren a b) x:=by
 cases c with
 | b j o=>exact hc
 | p x o=>obtain⟨v,h1,h2⟩:=hc;exact⟨v,(C.ren_s h (.p x o)).trans h1,h2⟩
 | l x o n k=>obtain⟨v,h1,h2⟩:=hc;exact⟨v,(C.ren_s h (.l x o n k)).trans h1,h2⟩
 | g x o d n=>obtain⟨v,h1,h2⟩:=hc;exact⟨v,(C.ren_s h (.g x o d n)).trans h1,h2⟩
 | m x=>obtain⟨v,h1,h2⟩:=hc;exact⟨v,(C.ren_s h (.m x)).trans h1,h2⟩
 | fm g x o=>obtain⟨v,h1,h2⟩:=hc;exact⟨v,(C.ren_s h (.fm g x o)).trans h1,h2⟩
 | h x o d k z w=>obtain⟨v,h1,h2⟩:=hc;exact⟨v,(C.ren_s h (.h x o d k z w)).trans h1,h2⟩
 | xx y d lo hi=>obtain⟨v,h1,h2⟩:=hc;exact⟨v,(C.ren_s h (.xx y d lo hi)).trans h1,h2⟩
 | _=>exact hc
theorem All2.mapL {α β γ:Type} {Q:α→β→Prop} {Q':γ→β→Prop} {f:α→γ} (hf:∀ x y,Q x y→Q' (f x) y):∀ {l:List α} {r:List β},All2 Q l r→All2 Q' (l.map f) r
 | [],[],_=>trivial
 | x::l,y::r,h=>⟨hf x y h.1,All2.mapL hf h.2⟩
 | [],_::_,h=>h.elim
 | _::_,[],h=>h.elim
theorem CRs.ren (h:Sw σ σ' a b) {l:List C} {vs:List Value} (hc:All2 (CR σ) l vs):All2 (CR σ') (l.map (C.ren a b)) vs:=All2.mapL (fun _ _ hq=>CR.ren h hq) hc
theorem SCRs.ren (h:Sw σ σ' a b) {nb:Nat} {l:List C} {vs:List SC} (hc:All2 (SCR σ nb) l vs):All2 (SCR σ' nb) (l.map (C.ren a b)) vs:=All2.mapL (fun _ _ hq=>SCR.ren h hq) hc
theorem WR.ren (h:Sw σ σ' a b) {w:W} {v:Value} (hc:WR σ w v):WR σ' (w.ren a b) v:=by
 cases w with
 | c x=>exact CR.ren h hc
 | ag l=>obtain⟨vs,h1,h2⟩:=hc;exact⟨vs,CRs.ren h h1,h2⟩
 | fn g l=>obtain⟨vs,h1,h2⟩:=hc;exact⟨vs,CRs.ren h h1,h2⟩
theorem VR.ren (h:Sw σ σ' a b) {nb:Nat} {v:V} {sv:SV} (hc:VR σ nb v sv):VR σ' nb (v.ren a b) sv:=by
 cases v with
 | c x=>
  rcases hc with ⟨sc,h1,h2⟩|⟨b',rfl,h2⟩
  ·exact .inl ⟨sc,SCR.ren h h1,h2⟩
  ·exact .inr ⟨b',rfl,h2⟩
 | ag l=>obtain⟨cs,h1,h2⟩:=hc;exact⟨cs,SCRs.ren h h1,h2⟩
 | fn g l=>
  rcases hc with ⟨cs,h1,h2⟩|⟨vs,h1,h2⟩
  ·exact .inl ⟨cs,SCRs.ren h h1,h2⟩
  ·exact .inr ⟨vs,CRs.ren h h1,h2⟩
 | tp l=>obtain⟨vs,h1,h2⟩:=hc;exact⟨vs,All2.mapL (fun _ _ hq=>WR.ren h hq) h1,h2⟩
 | sl j n=>exact hc
 | dead=>exact hc
theorem EnR.ren (h:Sw σ σ' a b) {e:En} {m:MapEntry} (hc:EnR σ e m):EnR σ' (e.ren a b) m:=⟨hc.1.ren h,hc.2.1.ren h,hc.2.2⟩
theorem OR.ren (h:Sw σ σ' a b) {e:E} {o:O} {M:Mem} (hc:OR σ e o M):OR σ' e (o.ren a b) M:=by
 cases o with
 | row E l=>obtain⟨h0,vs,h1,h2⟩:=hc;exact⟨h0,vs,CRs.ren h h1,h2⟩
 | ro E l=>obtain⟨h0,vs,h1,h2⟩:=hc;exact⟨h0,vs,CRs.ren h h1,h2⟩
 | gr E z l=>
  obtain⟨vs,h1,h2⟩:=hc;refine⟨vs,CRs.ren h h1,?_⟩;rcases h2 with ⟨h3,h4,h5⟩|h2
  ·exact .inl ⟨h3,by rw[h4];rfl,h5⟩
  ·exact .inr h2
 | mp es c=>obtain⟨h0,ms,h1,h2⟩:=hc;exact⟨h0,ms,All2.mapL (fun _ _ hq=>EnR.ren h hq) h1,h2⟩
 | it m s l t=>
  obtain⟨h0,x,h1,h2⟩:=hc;refine⟨h0,x,?_,h2⟩;cases m with
  | none=>exact h1
  | some k=>obtain⟨e',h3,h4⟩:=h1;exact⟨e',(h.to k).trans h3,h4⟩
 | si l p=>exact hc
theorem BR.ren (h:Sw σ σ' a b) {nb:Nat} {x:B} {y:BE} (hc:BR σ nb x y):BR σ' nb (x.ren a b) y:=by
 cases x with
 | live T l=>obtain⟨cs,h1,h2⟩:=hc;exact⟨cs,SCRs.ren h h1,h2⟩
 | gone k=>obtain⟨e,h1,h2⟩:=hc;exact⟨e,(h.to k).trans h1,h2⟩
 | dark=>exact hc
theorem T.zwU:∀ (t:T O) (k:Nat),(t.ren a b).get k=(t.get k).map (O.ren a b)
 | .e,_=>rfl
 | .n l v r,0=>rfl
 | .n l v r,m+1=>by
  show (T.n (l.ren a b) (v.map (O.ren a b)) (r.ren a b)).get (m+1)=_;rw[T.get_1,T.get_1];split
  ·exact T.zwU r _
  ·exact T.zwU l _
theorem T.zwV {H:T O} {k:Nat} {o:O} (h:(H.swp a b).get k=some o):∃ o0,H.get (sw a b k)=some o0∧o=o0.ren a b:=by
 unfold T.swp T.pt at h;rw[T.set_put,T.set_put] at h
 have opt:∀ {x:Option O},x.map (O.ren a b)=some o→∃ o0,x=some o0∧o=o0.ren a b:=fun {x} h=>by
  rw[Option.map_eq_some_iff] at h;obtain⟨o0,h1,h2⟩:=h;exact⟨o0,h1,h2.symm⟩
 rw[zF8];rcases T.get_put h with ⟨rfl,h1⟩|⟨h0,h1⟩
 ·obtain⟨o0,h2,h3⟩:=opt h1;by_cases hab:k=a
  ·subst hab;exact⟨o0,by rw[if_pos rfl];exact h2,h3⟩
  ·exact⟨o0,by rw[if_neg hab,if_pos rfl];exact h2,h3⟩
 ·rcases T.get_put h1 with ⟨rfl,h2⟩|⟨h3,h2⟩
  ·obtain⟨o0,h4,h5⟩:=opt h2;exact⟨o0,by rw[if_pos rfl];exact h4,h5⟩
  ·rw[T.zwU] at h2;obtain⟨o0,h4,h5⟩:=opt h2;exact⟨o0,by rw[if_neg h3,if_neg h0];exact h4,h5⟩
theorem HR.swp (h:Sw σ σ' a b) {H:T O} {M:Mem} (hr:HR σ H M):HR σ' (H.swp a b) M:=by
 refine⟨fun k o hk=>?_,fun k k' o o' e e' hk hk' he he' hn hn' hadr=>?_⟩
 ·obtain⟨o0,h1,rfl⟩:=T.zwV hk;obtain⟨e,h2,h3⟩:=hr.has _ _ h1;exact⟨e,(h k).trans h2,h3.ren h⟩
 ·obtain⟨o0,h1,rfl⟩:=T.zwV hk;obtain⟨o1,h2,rfl⟩:=T.zwV hk';have:=hr.inj _ _ _ _ _ _ h1 h2 ((h k).symm.trans he) ((h k').symm.trans he') hn hn' hadr
  rw[←zKG a b k,this,zKG]
theorem zHB {f:V→V} {d:Nat}:∀ {l:List (Nat×V)},zuF (l.map fun p=>(p.1,f p.2)) d=(zuF l d).map f
 | []=>rfl
 | (k,v)::l=>by
  rw[List.map_cons,znf,znf,zHB];split<;>rfl
variable {s:S} {t:St}
theorem SR.swp (hr:SR σ s t) (h:Sw σ σ' a b) (hl:σ'.length=σ.length):SR σ' (s.swp a b) t:=by
 obtain⟨nl,tl,L,bx,n,H,g⟩:=s;refine⟨hr.n.trans hl.symm,fun d v hd=>?_,All2.mapL (fun _ _ hq=>BR.ren h hq) hr.bx,hr.h.swp h⟩
 have h1:S.fget (S.swp a b ⟨nl,tl,L,bx,n,H,g⟩) d=(S.fget ⟨nl,tl,L,bx,n,H,g⟩ d).map (V.ren a b):=by
  show S.fget ⟨nl,tl.map fun p=>(p.1,p.2.ren a b),L.map fun v=>v.map (V.ren a b),bx.map (B.ren a b),n,H.swp a b,g⟩ d=_;rw[zlh,zlh,zHB];split
  ·rfl
  ·rw[List.getElem?_map];cases L[d]? <;> simp
 rw[h1,Option.map_eq_some_iff] at hd;obtain⟨v0,h2,rfl⟩:=hd;obtain⟨h3,sv,h4,h5⟩:=hr.fr d v0 h2;refine⟨fun e=>h3 ?_,sv,h4,h5.ren h⟩;cases v0<;>first|rfl|cases e
theorem zHC {σ0:List E} (ha:σ0.length≤a) (hb:σ0.length≤b) (hx:∃ τ,σ=σ0++τ) (hr:SR σ s t):∃ σ'',(∃ τ,σ''=σ0++τ)∧SR σ'' (s.cs a b) t:=by
 unfold S.cs;cases hq:swB a b s.H with
 | false=>exact⟨σ,hx,hr⟩
 | true=>
  unfold swB at hq;split at hq
  ·rename_i x y h1 h2;obtain⟨ea,h3, -⟩:=hr.h.has a x h1;obtain⟨eb,h4, -⟩:=hr.h.has b y h2;have hS:Sw σ (swL σ a b ea eb) a b:=zS1 h3 h4
   have hl:(swL σ a b ea eb).length=σ.length:=by simp[swL]
   refine⟨swL σ a b ea eb,?_,hr.swp hS hl⟩;obtain⟨τ,rfl⟩:=hx;refine⟨(swL (σ0++τ) a b ea eb).drop σ0.length,?_⟩
   have h5:(swL (σ0++τ) a b ea eb).take σ0.length=σ0:=by
    refine List.ext_getElem? fun k=>?_
    rw[List.getElem?_take];split
    ·rename_i hk;rw[hS k,zF8,if_neg (by omega),if_neg (by omega),List.getElem?_append_left hk]
    ·rename_i hk;rw[List.getElem?_eq_none (by omega)]
   rw[←List.take_append_drop σ0.length (swL (σ0++τ) a b ea eb),h5];simp
  ·cases hq
theorem zRC {σ0:List E} {n:Nat} (hn:σ0.length=n) (hx:∃ τ,σ=σ0++τ) (hr:SR σ s t):∃ σ'',(∃ τ,σ''=σ0++τ)∧SR σ'' (zKt n s) t:=by
 unfold zKt;obtain⟨σ1,x1,h1⟩:=zHC (a:=n) (b:=n+1) (by omega) (by omega) hx hr;obtain⟨σ2,x2,h2⟩:=zHC (a:=n+2) (b:=n+3) (by omega) (by omega) x1 h1;obtain⟨σ3,x3,h3⟩:=zHC (a:=n) (b:=n+2) (by omega) (by omega) x2 h2;obtain⟨σ4,x4,h4⟩:=zHC (a:=n+1) (b:=n+3) (by omega) (by omega) x3 h3;exact zHC (a:=n+1) (b:=n+2) (by omega) (by omega) x4 h4
theorem zi3 {α:Type} {f:α→(α→R)→R} (hf:∀ x K,f x K=K x):∀ (l:List α) (K:List α→R),zjh f l K=K l
 | [],_=>rfl
 | x::l,K=>by
  show f x (fun a'=>zjh f l fun r=>K (a'::r))=_;rw[hf,zi3 hf l]
theorem zEa {α:Type} {f:α→(α→R)→R} (hf:∀ x K,f x K=K x) (x:Option α) (K:Option α→R):zD1 f x K=K x:=by
 cases x with
 | none=>rfl
 | some v=>exact hf v _
theorem ztC (c:C) (K:C→R):fcC c K=K c:=by cases c<;>simp only[fcC,fN_eq]
theorem zHD (w:W) (K:W→R):fcW w K=K w:=by cases w<;>simp only[fcW,ztC,zi3 ztC]
theorem zNc (v:V) (K:V→R):fcV v K=K v:=by cases v<;>simp only[fcV,ztC,zi3 ztC,zi3 zHD]
theorem zS2 (e:En) (K:En→R):fcE e K=K e:=by
 obtain⟨k,v,n⟩:=e;show (fcW k fun k=>fcW v fun v=>K ⟨k,v,n⟩)=_
 rw[zHD,zHD]
theorem zS3 (o:O) (K:O→R):fcO o K=K o:=by
 cases o<;>simp only[fcO,zi3 ztC,zi3 zS2];exact zEa (fun x K=>fN_eq K x) _ _
theorem zS4 (x:B) (K:B→R):fcB x K=K x:=by cases x<;>simp only[fcB,zi3 ztC,fN_eq]
theorem zHE:∀ (t:T O) (K:T O→R),fcT t K=K t
 | .e,_=>rfl
 | .n l v r,K=>by
  show fcT l (fun l=>zD1 fcO v fun v=>fcT r fun r=>K (.n l v r))=_;rw[zHE l,zEa zS3,zHE r]
theorem zS5 (s:S) (K:S→R):fcS s K=K s:=by
 obtain⟨nl,tl,L,bx,n,H,g⟩:=s;show (zjh (fun p K=>Prod.rec (fun d v=>fcV v fun v=>K (d,v)) p) tl fun tl=>zjh (zD1 fcV) L fun L=>zjh fcB bx fun bx=>fcT H fun H=>K ⟨nl,tl,L,bx,n,H,g⟩)=_
 rw[zi3 (fun p K=>by obtain⟨d,v⟩:=p;exact zNc v _),zi3 (fun x K=>zEa zNc x K),zi3 zS4,zHE]
end
end
section
section
variable {P:Program} {F:Cal} {σ:List E} {s:S} {t:St} {y:Out} {nb:Nat}
def Md.rd (md:Md) (a:Nat):Prop:=match md with | .kp l=>mem a l=true|_=>True
def Md.g (md:Md):Option (List Nat):=match md with | .kp l=>some l|_=>none
def XR (σ:List E) (md:Md) (HX:T O) (X:Mem):Prop:=∀ a o,md.rd a→HX.get a=some o→∃ e,σ[a]? = some e∧OR σ e o X
def XK (σ:List E) (md:Md) (HX:T O) (X:Mem):Prop:=match md with | .kp l=>∀ b x,X b=some x→∃ a∈l,∃ o e,HX.get a=some o∧σ[a]? = some e∧e.nil=false∧e.addr=b|_=>True
theorem XR.ext {md:Md} {HX:T O} {X:Mem} (h:XR σ md HX X) {σ':List E} {t':St} (x:Ext σ t σ' t'):XR σ' md HX X:=fun a o ha hg=>by
 obtain⟨e,h1,h2⟩:=h a o ha hg;obtain⟨τ,rfl⟩:=x.σ;exact⟨e,zoV τ h1,h2.mono τ⟩
theorem XK.ext {md:Md} {HX:T O} {X:Mem} (h:XK σ md HX X) {σ':List E} {t':St} (x:Ext σ t σ' t'):XK σ' md HX X:=by
 cases md with
 | kp l=>
  intro b u hb;obtain⟨a,h1,o,e,h2,h3,h4⟩:=h b u hb;exact⟨a,h1,o,e,h2,zpB x h3,h4⟩
 | _=>trivial
theorem BRs.ext {l:List B} {r:List BE} (h:All2 (BR σ t.bx.length) l r) {σ':List E} {t':St} (x:Ext σ t σ' t'):All2 (BR σ' t'.bx.length) l r:=by
 obtain⟨τ,rfl⟩:=x.σ;exact h.imp fun _ _ hb=>hb.mono τ x.bx
theorem zUA {md:Md} (hmd:md ≠ .coll) {bx0:List B} {bx0x:List BE} {o:zac} (hq:zE o.op=true∨∀ (s:S) (K:V→R),qd o.op s K=none) {HX:T O} {X:Mem} {acc:List Nat} {K:S→List Nat→R} (h:tk md bx0 o HX s acc K=some y) (hr:SR σ s t) (hX:XR σ md HX X) (hb:All2 (BR σ t.bx.length) bx0 bx0x) {k:St→Prop}
  (hk:∀ s' t',Ext σ t σ t'→SR σ s' t'→K s' acc=some y→k t') :
  match o.guard with
  | none=>vq o.op ⟨t.fr,bx0x,X⟩ fun sv=>ziL o.sp sv fun sv'=>t.putK o.dst sv' k
  | some (g,b)=>Vm.ev t (.tmp g) fun gv=>brG b gv (vq o.op ⟨t.fr,bx0x,X⟩ fun sv=>ziL o.sp sv fun sv'=>t.putK o.dst sv' k) (t.putK o.dst SV.skip k):=by
 have hext:∀ (d:Option Nat) (sv:SV),Ext σ t σ (t.put d sv):=fun d sv=>⟨⟨[],by simp⟩,by cases d<;>exact Nat.le_refl _⟩
 have one:tk1 md bx0 o HX s acc K=some y→vq o.op ⟨t.fr,bx0x,X⟩ fun sv=>ziL o.sp sv fun sv'=>t.putK o.dst sv' k:=fun h1=>by
  have h2:(qd o.op (s.with bx0 HX md.g) fun v=>sp o.sp v fun v'=>s.put o.dst v' fun s'=>K s' acc)=some y:=by
   cases md with
   | coll=>exact absurd rfl hmd
   | free=>exact h1
   | kp l=>exact h1
  rcases hq with hq|hq
  ·have hQ:QR σ t.bx.length (s.with bx0 HX md.g) ⟨t.fr,bx0x,X⟩:=by
    obtain⟨nl,tl,L,bx,n,H,g⟩:=s;refine⟨hr.fr,hb,fun a o ha hg=>hX a o ?_ hg⟩;cases md with
    | kp l=>exact ha
    | _=>trivial
   exact zUw o.op hq hQ h2 fun v sv hv h3=>zSZ h3 hv fun v' sv' hv' h4=>by
    obtain⟨s'',h5,h6⟩:=hr.put_s h4 hv';rw[zi1];exact hk s'' _ (hext _ _) h6 h5
  ·rw[hq] at h2;cases h2
 have h':(match o.guard with|none=>tk1 md bx0 o HX s acc K|some g=>ev s (.tmp g.1) fun v=>gd g.2 v (tk1 md bx0 o HX s acc K) (s.put o.dst zuH fun s'=>K s' acc))=some y:=by
  unfold tk at h;cases hg:o.guard with
  | none=>rw[hg] at h;exact h
  | some g=>rw[hg] at h;exact h
 cases hg:o.guard with
 | none=>rw[hg] at h';exact one h'
 | some g=>
  rw[hg] at h';obtain⟨g,b⟩:=g;refine z7 h' hr.fr fun v sv _ hv h1=>zKE h1 hv one (fun h2=>?_)
  obtain⟨s'',h3,h4⟩:=hr.put_s h2 zD9;rw[zi1];exact hk s'' _ (hext _ _) h4 h3
theorem zT1 {o:ROp}:zE o=true∨∀ (s:S) (K:V→R),qd o s K=none:=by
 cases o<;>first|exact .inl rfl|exact .inr fun _ _=>rfl
theorem zS6 {md:Md} (hmd:md ≠ .coll) {more:DTree} {a b:R} (h:zKx md more a b=some y):a=some y∧(more = .none∨b=some y):=by
 unfold zKx at h;cases hn:isNone more with
 | true=>
  rw[hn] at h;refine⟨h,.inl ?_⟩;cases more<;>first|rfl|cases hn
 | false=>
  rw[hn] at h;cases md with
  | coll=>exact absurd rfl hmd
  | free=>obtain⟨h3,h4⟩:=zNb h;exact⟨h3,.inr h4⟩
  | kp l=>obtain⟨h3,h4⟩:=zNb h;exact⟨h3,.inr h4⟩
theorem zT2 (hF:FOk P F) {o:zac} {K K2:S→R} (h:opD F o s K K2=some y) (hr:SR σ s t) {k k2:St→Prop} (hk:∀ σ' s' t',Ext σ t σ' t'→SR σ' s' t'→K s'=some y→k t') (hk2:∀ s' t',Ext σ t σ t'→SR σ s' t'→K2 s'=some y→k2 t') :
  match o.guard with
  | none=>vop P o t k
  | some (g,b)=>Vm.ev t (.tmp g) fun sv=>brG b sv (vop P o t k) (t.putK o.dst SV.skip k2):=by
 have h':(match o.guard with|none=>op F o s K|some g=>ev s (.tmp g.1) fun v=>gd g.2 v (op F o s K) (s.put o.dst zuH K2))=some y:=by
  unfold opD at h;cases hg:o.guard with
  | none=>rw[hg] at h;exact h
  | some g=>rw[hg] at h;exact h
 cases hg:o.guard with
 | none=>rw[hg] at h';exact zKD hF h' hr hk
 | some g=>
  rw[hg] at h';obtain⟨g,b⟩:=g;refine z7 h' hr.fr fun v sv _ hv h1=>zKE h1 hv (fun h2=>zKD hF h2 hr hk) (fun h2=>?_)
  obtain⟨s'',h3,h4⟩:=hr.put_s h2 zD9;rw[zi1];refine hk2 s'' _ ⟨⟨[],by simp⟩,?_⟩ h4 h3;cases o.dst<;>exact Nat.le_refl _
theorem zwW (hF:FOk P F) {md:Md} (hmd:md ≠ .coll) {bx0:List B} {bx0x:List BE}:∀ {tr:DTree} {σ:List E} {s:S} {t:St} {HX:T O} {X:Mem} {acc:List Nat} {K:S→List Nat→R},dr F md bx0 tr HX s acc K=some y→SR σ s t→XR σ md HX X→XK σ md HX X →
  All2 (BR σ t.bx.length) bx0 bx0x→∀ {k:St→Prop},(∀ σ' s' t',Ext σ t σ' t'→SR σ' s' t'→K s' acc=some y→k t')→zbY P X bx0x tr t k
 | .done,σ,s,t,HX,X,acc,K,h,hr,hX,hK,hb,k,hk=>hk σ s t Ext.rfl' hr h
 | .none,σ,s,t,HX,X,acc,K,h,hr,hX,hK,hb,k,hk=>trivial
 | .take o tr,σ,s,t,HX,X,acc,K,h,hr,hX,hK,hb,k,hk=>by
  have h':tk md bx0 o HX s acc (fun s' acc'=>dr F md bx0 tr HX s' acc' K)=some y:=h;have:=zUA hmd zT1 h' hr hX hb (k:=fun t'=>zbY P X bx0x tr t' k) fun s' t' hx hr' h1=>zwW hF hmd h1 hr' (hX.ext hx) (hK.ext hx) (BRs.ext hb hx) fun σ'' s'' t'' hx' hr'' h2=>hk σ'' s'' t'' (hx.trans hx') hr'' h2
  obtain⟨fr,bx,M⟩:=t;exact this
 | .alt o need tr more,σ,s,t,HX,X,acc,K,h,hr,hX,hK,hb,k,hk=>by
  have h':zKx md more (opD F o s (fun s'=>zKw need md bx0 HX s' fun HX'=>dr F md bx0 tr HX' s' acc K) (fun s'=>dr F md bx0 tr HX s' acc K)) (dr F md bx0 more HX s acc K)=some y:=h;have h2:(opD F o s (fun s'=>zKw need md bx0 HX s' fun HX'=>dr F md bx0 tr HX' s' acc K) (fun s'=>dr F md bx0 tr HX s' acc K))=some y∧(more = .none∨dr F md bx0 more HX s acc K=some y):=zS6 hmd h'
  obtain⟨h3,h4⟩:=h2;refine⟨?_,?_⟩
  ·refine zT2 hF h3 hr (fun σ' s' t' hx hr' h5=>?_) (fun s' t' hx hr' h5=>zwW hF hmd h5 hr' (hX.ext hx) (hK.ext hx) (BRs.ext hb hx) fun σ'' s'' t'' hx' hr'' h6=>hk σ'' s'' t'' (hx.trans hx') hr'' h6)
   ·         cases need with
    | false=>exact zwW hF hmd h5 hr' (hX.ext hx) (hK.ext hx) (BRs.ext hb hx) fun σ'' s'' t'' hx' hr'' h6=>hk σ'' s'' t'' (hx.trans hx') hr'' h6
    | true=>
     cases md with
     | coll=>exact absurd rfl hmd
     | free=>cases h5
     | kp l=>
      obtain⟨h6,h7⟩:=zx (b:=kept l HX s'.H) h5;obtain⟨h8,h9⟩:=zx h7;refine zQz hr'.h ?_ h8 (BRs.ext hb hx) hr'.bx;refine⟨part σ' s'.H t'.M l,fun b u hbu=>?_,part_le,?_⟩
      ·obtain⟨a,ha,o',e,hg,he,hn,hadr⟩:=hK b u hbu;obtain⟨e',he',ho⟩:=hX a o' (mem_s.2 ha) hg;rw[he] at he';cases he';have hg':=zHA h6 a ha o' hg
       obtain⟨e2,he2,ho2⟩:=hr'.h.has a o' hg';rw[zpB hx he] at he2;cases he2;obtain⟨τ,rfl⟩:=hx.σ;have:=OR.fn (ho.mono τ) ho2 hn
       rw[hadr] at this;unfold part;rw[if_pos ⟨a,ha,o',e,hg',zoV τ he,hn,hadr⟩,←this];exact hbu
      ·refine zwW hF hmd h9 hr' (fun a o' ha hg=>zAD hr'.h (mem_s.1 ha) hg) (fun b u hbu=>?_) (BRs.ext hb hx) fun σ'' s'' t'' hx' hr'' h6=>hk σ'' s'' t'' (hx.trans hx') hr'' h6
       obtain⟨a,ha,o',e,hg,he,hn,hadr, -⟩:=zwT hbu;exact⟨a,ha,o',e,hg,he,hn,hadr⟩
  ·rcases h4 with rfl|h4
   ·trivial
   ·exact zwW hF hmd h4 hr hX hK hb hk
theorem zxx:∀ tr:DTree,zHl tr=zkB tr
 | .done=>rfl
 | .none=>rfl
 | .take _ tr=>zxx tr
 | .alt _ need tr more=>by
  show (need||zHl tr||zHl more)=(need||zkB tr||zkB more)
  rw[zxx tr,zxx more]
theorem zxy:∀ tr:DTree,zHm tr=zp4 tr
 | .done=>rfl
 | .none=>rfl
 | .take _ tr=>zxy tr
 | .alt o need tr more=>by
  show ((need&&zxj o.op)||zHm tr||zHm more)=((need&&zxj o.op)||zp4 tr||zp4 more)
  rw[zxy tr,zxy more]
theorem zKH {ks:List Nat} {d:Nat→Nat}:∀ {l:List B} {r:List BE} {i:Nat},All2 (BR σ nb) l r→All2 (BR σ nb) (zOe ks l i) (dim ks d i r)
 | [],[],_,_=>trivial
 | b::l,x::r,i,h=>by
  show All2 (BR σ nb) (Bool.rec b .dark (mem i ks)::zOe ks l (i+1)) ((if i∈ks then .gone (d i) else x)::dim ks d (i+1) r);cases hm:mem i ks with
  | true=>rw[if_pos (mem_s.1 hm)];exact⟨⟨d i,rfl⟩,zKH h.2⟩
  | false=>rw[if_neg (fun hi=>by rw[mem_s.2 hi] at hm;cases hm)];exact⟨h.1,zKH h.2⟩
 | [],_::_,_,h=>h.elim
 | _::_,[],_,h=>h.elim
theorem zNd (hF:FOk P F) {tr:DTree} {K:S→R} (h:draw F tr s K=some y) (hr:SR σ s t) {k:St→Prop} (hk:∀ σ' s' t',Ext σ t σ' t'→SR σ' s' t'→K s'=some y→k t'):zxk P tr t k:=by
 unfold draw at h;unfold zxk;rw[←zxx];cases ha:zHl tr with
 | false=>
  rw[ha] at h;obtain⟨fr,bx,M⟩:=t;exact zwW hF (by simp) h hr (fun a o _ hg=>hr.h.has a o hg) trivial hr.bx hk
 | true=>
  rw[ha] at h;obtain⟨z, -, h1⟩:=zji h;split at h1
  ·rw[zb4,zb4] at h1;rw[←zxy];cases hs:zHm tr with
   | true=>
    rw[hs] at h1;refine⟨_,part σ s.H t.M _,part_le,fun d=>zwW hF (md := .kp _) (by simp) h1 hr (fun a o ha hg=>zAD hr.h (mem_s.1 ha) hg) (fun b u hbu=>?_) (zKH hr.bx) hk⟩;obtain⟨a,ha,o',e,hg,he,hn,hadr, -⟩:=zwT hbu;exact⟨a,ha,o',e,hg,he,hn,hadr⟩
   | false=>
    rw[hs] at h1;refine⟨part σ s.H t.M _,part_le,zwW hF (md := .kp _) (by simp) h1 hr (fun a o ha hg=>zAD hr.h (mem_s.1 ha) hg) (fun b u hbu=>?_) hr.bx hk⟩;obtain⟨a,ha,o',e,hg,he,hn,hadr, -⟩:=zwT hbu;exact⟨a,ha,o',e,hg,he,hn,hadr⟩
  ·cases h1
theorem zRD (hF:FOk P F) {tr:DTree} {K:S→R} (h:zF5 F tr s K=some y) (hr:SR σ s t) {k:St→Prop} (hk:∀ σ' s' t',Ext σ t σ' t'→SR σ' s' t'→K s'=some y→k t'):zxk P tr t k:=by
 unfold zF5 at h;split at h
 ·obtain⟨z,h1,h2⟩:=zji h;split at h2
  ·rename_i e s1;refine zNd hF h1 hr fun σ' s' t' hx hr' h3=>?_
   obtain⟨s'',h4,h5⟩:=zKF h3 hr';rw[zS5] at h4;cases h4;obtain⟨σ'',h6,h7⟩:=zRC hr.n.symm hx.σ h5;exact hk σ'' _ t' ⟨h6,hx.bx⟩ h7 h2
  ·cases h2
 ·exact zNd hF h hr hk
theorem VR.lt {v:V} {sv:SV} (h:VR σ nb v sv):sv.lt nb=true:=by
 have sc:∀ {c:C} {x:SC},SCR σ nb c x→x.lt nb=true:=fun {c x} h=>by
  cases c with
  | b j o=>obtain⟨h1,rfl⟩:=h;exact decide_eq_true h1
  | _=>obtain⟨v, -, rfl⟩:=h;rfl
 have scs:∀ {l:List C} {xs:List SC},All2 (SCR σ nb) l xs→xs.all (SC.lt nb)=true:=fun {l xs} h=>by
  induction l generalizing xs with
  | nil=>cases xs with
   | nil=>rfl
   | cons _ _=>exact h.elim
  | cons c l ih=>cases xs with
   | nil=>exact h.elim
   | cons x xs=>rw[List.all_cons,sc h.1,ih h.2];rfl
 cases v with
 | c x=>
  rcases h with ⟨x,h1,rfl⟩|⟨b, -, rfl⟩
  ·exact sc h1
  ·rfl
 | ag l=>obtain⟨cs,h1,rfl⟩:=h;exact scs h1
 | fn g l=>
  rcases h with ⟨cs,h1,rfl⟩|⟨vs, -, rfl⟩
  ·exact scs h1
  ·rfl
 | tp l=>obtain⟨vs, -, rfl⟩:=h;rfl
 | sl j n=>obtain⟨h1,rfl⟩:=h;exact decide_eq_true h1
 | dead=>cases h;rfl
theorem BR.lt {b:B} {x:BE} (h:BR σ nb b x):x.lt nb=true:=by
 cases b with
 | live T l=>
  obtain⟨cs,h1,rfl⟩:=h;exact VR.lt (v := .ag l) ⟨cs,h1,rfl⟩
 | gone a=>obtain⟨e, -, rfl⟩:=h;rfl
 | dark=>obtain⟨a,rfl⟩:=h;rfl
theorem zEG {l:List (Nat×SV)}:∀ {r:List (Nat×SV)},(∀ p∈r,lk l p.1=some p.2)→zBj l r
 | [],_=>trivial
 | (d,sv)::r,h=>⟨h (d,sv) (by simp),zEG fun p hp=>h p (List.mem_cons_of_mem _ hp)⟩
theorem zCB:∀ l:List BE,zBk l l
 | []=>trivial
 | _::l=>⟨rfl,zCB l⟩
theorem zQA {fr:List (Nat×SV)} {p:Nat→Bool} {d:Nat} {sv:SV} (hd:lk fr d=some sv) (hp:p d=true):∀ {l:List Nat},d∈l→lk (l.filterMap fun d=>if p d then (lk fr d).map fun sv=>(d,sv) else none) d=some sv
 | [],h=>by cases h
 | x::l,h=>by
  rw[List.filterMap_cons];by_cases hx:x=d
  ·subst hx;rw[hp,if_pos rfl,hd];show lk ((x,sv)::_) x=_
   rw[zq6,if_pos rfl]
  ·have hl:d∈l:=by
    rcases List.mem_cons.1 h with h|h
    ·exact absurd h.symm hx
    ·exact h
   have ih:=zQA hd hp hl;cases hpx:p x with
   | false=>simp only[Bool.false_eq_true,if_false];exact ih
   | true=>
    simp only[if_true];cases hlx:lk fr x with
    | none=>exact ih
    | some u=>show lk ((x,u)::_) d=_;rw[zq6,if_neg hx];exact ih
theorem zHF {d:Nat} {v:V}:∀ {l:List (Nat×V)},zuF l d=some v→d∈l.map Prod.fst
 | [],h=>by cases h
 | (k,u)::l,h=>by
  rw[znf] at h;split at h
  ·rename_i hk;subst hk;simp
  ·exact List.mem_cons_of_mem _ (zHF h)
theorem zQB (hr:SR σ s t):∃ t',SR σ s t'∧t'.sub t∧t'.bx=t.bx:=by
 let p:Nat→Bool:=fun d=>(s.fget d).isSome
 let fr':=(s.tl.map Prod.fst++List.range s.L.length).filterMap fun d=>if p d then (lk t.fr d).map fun sv=>(d,sv) else none
 have hfr:FR σ t.bx.length s fr':=fun d v hd=>by
  obtain⟨h0,sv,h1,h2⟩:=hr.fr d v hd;refine⟨h0,sv,zQA h1 (by simp[p,hd]) ?_,h2⟩;obtain⟨nl,tl,L,bx,n,H,g⟩:=s;rw[zlh] at hd;split at hd
  ·exact List.mem_append.2 (.inl (zHF hd))
  ·refine List.mem_append.2 (.inr (List.mem_range.2 ?_));by_cases hl:d<L.length
   ·exact hl
   ·rw[List.getElem?_eq_none (by omega)] at hd;cases hd
 have hmem:∀ q∈fr',lk t.fr q.1=some q.2∧∃ v,s.fget q.1=some v:=fun q hq=>by
  obtain⟨d, -, h1⟩:=List.mem_filterMap.1 hq;split at h1
  ·rename_i hp;rw[Option.map_eq_some_iff] at h1;obtain⟨sv,h2,rfl⟩:=h1;exact⟨h2,Option.isSome_iff_exists.1 hp⟩
  ·cases h1
 refine⟨⟨fr',t.bx,t.M⟩,⟨hr.n,hfr,hr.bx,hr.h⟩,⟨zEG fun q hq=>(hmem q hq).1,zCB _,Mem.le_refl _,?_⟩,rfl⟩;show (fr'.all (fun p=>p.2.lt t.bx.length)&&t.bx.all (BE.lt t.bx.length))=true
 rw[Bool.and_eq_true];constructor
 ·rw[List.all_eq_true];intro q hq;obtain⟨h1,v,h2⟩:=hmem q hq;obtain⟨-, sv,h3,h4⟩:=hr.fr q.1 v h2;rw[h1] at h3;cases h3;exact h4.lt
 ·have hb:=hr.bx;generalize t.bx.length=m at hb;clear hmem hfr;revert hb;generalize t.bx=r;generalize s.bx=l;intro hb
  induction l generalizing r with
  | nil=>cases r with
   | nil=>rfl
   | cons _ _=>exact hb.elim
  | cons b l ih=>cases r with
   | nil=>exact hb.elim
   | cons x r=>rw[List.all_cons,hb.1.lt,ih r hb.2];rfl
end
end
section
section
variable {P:Program} {F:Cal} {σ:List E} {s:S} {t:St} {y:Out} {nb:Nat}
def X.ex:X→Exit
 | .normal => .normal
 | .ret => .ret
 | .exit i => .exit i
theorem zS7 {a:RCode} (ha:∀ {σ:List E} {s:S} {t:St} {K:X→S→R},zoU F nb a s K=some y→SR σ s t→∀ {Q:Exit→St→Prop},(∀ e σ' s' t',Ext σ t σ' t'→SR σ' s' t'→K e s'=some y→Q (X.ex e) t')→vc P a Q t)
  {K:X→S→R} {n:Nat} (h:zF6 (zoU F nb a) n s K=some y) (hr:SR σ s t) {Q:Exit→St→Prop} (hk:∀ e σ' s' t',Ext σ t σ' t'→SR σ' s' t'→K e s'=some y→Q (X.ex e) t'):zbd (vc P a) Q t:=by
 left;refine⟨fun m u=>∃ σ' s',Ext σ t σ' u∧SR σ' s' u∧zF6 (zoU F nb a) m s' K=some y,?_,?_⟩
 ·obtain⟨t',h1,h2,h3⟩:=zQB hr;exact⟨n,t',⟨σ,s,⟨⟨[],by simp⟩,by rw[h3];exact Nat.le_refl _⟩,h1,h⟩,h2⟩
 ·rintro m u ⟨σ',s',hx,hr',hm⟩;cases m with
  | zero=>cases hm
  | succ m=>
   have hm':zoU F nb a s' (fun e s''=>X.rec (zF6 (zoU F nb a) m s'' K) (K .ret s'') (fun i=>K (.exit i) s'') e)=some y:=hm;refine ha hm' hr' fun e σ'' s'' t'' hx' hr'' h1=>?_
   cases e with
   | normal=>
    obtain⟨t3,h2,h3,h4⟩:=zQB hr'';exact⟨m,t3,Nat.lt_succ_self _,⟨σ'',s'',⟨(hx.trans hx').σ,by rw[h4];exact(hx.trans hx').bx⟩,h2,h1⟩,h3⟩
   | ret=>exact hk .ret σ'' s'' t'' (hx.trans hx') hr'' h1
   | exit i=>exact hk (.exit i) σ'' s'' t'' (hx.trans hx') hr'' h1
theorem zpF (hF:FOk P F) (N:Nat):∀ (c:RCode) {σ:List E} {s:S} {t:St} {K:X→S→R},zoU F N c s K=some y→SR σ s t→∀ {Q:Exit→St→Prop},(∀ e σ' s' t',Ext σ t σ' t'→SR σ' s' t'→K e s'=some y→Q (X.ex e) t')→vc P c Q t
 | .skip,σ,s,t,K,h,hr,Q,hk=>hk .normal σ s t Ext.rfl' hr h
 | .draw tr kl,σ,s,t,K,h,hr,Q,hk=>by
  cases kl with
  | cons _ _=>cases h
  | nil=>
   have h':(zF5 F tr s fun s'=>s'.cut fun s''=>K .normal s'')=some y:=h;refine zRD hF h' hr fun σ' s' t' hx hr' h1=>?_
   obtain⟨s'',h2,h3⟩:=zKF h1 hr';rw[zoD];exact hk .normal σ' s'' t' hx h3 h2
 | .ops l kl,σ,s,t,K,h,hr,Q,hk=>by
  cases kl with
  | cons _ _=>cases h
  | nil=>
   have h':(ops F l s fun s'=>s'.cut fun s''=>K .normal s'')=some y:=h;refine zQy hF h' hr fun σ' s' t' hx hr' h1=>?_
   obtain⟨s'',h2,h3⟩:=zKF h1 hr';rw[zoD];exact hk .normal σ' s'' t' hx h3 h2
 | .seq a b,σ,s,t,K,h,hr,Q,hk=>by
  have h':zoU F N a s (fun e s'=>X.rec (zoU F N b s' K) (K .ret s') (fun i=>K (.exit i) s') e)=some y:=h;refine zpF hF N a h' hr fun e σ' s' t' hx hr' h1=>?_
  cases e with
  | normal=>exact zpF hF N b h1 hr' fun e σ'' s'' t'' hx' hr'' h2=>hk e σ'' s'' t'' (hx.trans hx') hr'' h2
  | ret=>exact hk .ret σ' s' t' hx hr' h1
  | exit i=>exact hk (.exit i) σ' s' t' hx hr' h1
 | .cond c a b,σ,s,t,K,h,hr,Q,hk=>by
  have h':(evB s c fun t=>Bool.rec (zoU F N b s K) (zoU F N a s K) t)=some y:=h;exact z7 h' hr.fr fun v sv _ hv h1=>zKz h1 hv (fun h2=>zpF hF N a h2 hr hk) (fun h2=>zpF hF N b h2 hr hk)
 | .block id a,σ,s,t,K,h,hr,Q,hk=>by
  have h':zoU F N a s (fun e s'=>X.rec (K .normal s') (K .ret s') (fun i=>Bool.rec (K (.exit i) s') (K .normal s') (Nat.beq i id)) e)=some y:=h;refine zpF hF N a h' hr fun e σ' s' t' hx hr' h1=>?_
  cases e with
  | normal=>exact hk .normal σ' s' t' hx hr' h1
  | ret=>exact hk .ret σ' s' t' hx hr' h1
  | exit i=>
   show (match Nat.beq i id with|true=>Q .normal t'|false=>Q (.exit i) t');replace h1:(Bool.rec (K (.exit i) s') (K .normal s') (Nat.beq i id):R)=some y:=h1;cases hb:Nat.beq i id with
   | true=>rw[hb] at h1;exact hk .normal σ' s' t' hx hr' h1
   | false=>rw[hb] at h1;exact hk (.exit i) σ' s' t' hx hr' h1
 | .loop a,σ,s,t,K,h,hr,Q,hk=>zS7 (fun h hr _ hk=>zpF hF N a h hr hk) h hr hk
 | .exit id,σ,s,t,K,h,hr,Q,hk=>hk (.exit id) σ s t Ext.rfl' hr h
 | .ret,σ,s,t,K,h,hr,Q,hk=>hk .ret σ s t Ext.rfl' hr h
 | .scope a,σ,s,t,K,h,hr,Q,hk=>by
  refine zpF hF N a h hr fun e σ' s' t' hx hr' h1=>?_
  cases e with
  | normal=>exact hk .normal σ' s' t' hx hr' h1
  | ret=>exact hk .ret σ' s' t' hx hr' h1
  | exit i=>exact hk (.exit i) σ' s' t' hx hr' h1
 | .rfun _ _ _ _,σ,s,t,K,h,hr,Q,hk=>by cases h
theorem zS8 {r:zd} {K:W→S→R} (h:zSQ r s K=some y) (hr:SR σ s t) {k:Value→St→Prop} (hk:∀ σ' w u s' t',Ext σ t σ' t'→SR σ' s' t'→WR σ' w u→K w s'=some y→k u t'):zBl r t k:=by
 cases r with
 | tmp d=>
  have h':(ev s (.tmp d) fun v=>shal v s K)=some y:=h;exact z7 h' hr.fr fun v sv _ hv h1=>zpD h1 hr hv hk
 | cell g n d=>
  have h':(evP s (.tmp d) (fun _ o cs=>takeC cs o n fun l=>mkv g l fun v=>shal v s K) (fun a o=>cB (Nat.blt 0 n) (row s a o n fun l=>mkv g l fun v=>shal v s K) fail))=some y:=h;refine zxq h' hr.fr hr.bx (fun j o T l cs _ _ hl h1=>?_) (fun a o e he h1=>?_)
  ·obtain⟨h2,h3⟩:=zty h1;rw[zuI (by rw[←hl.len];exact h2)];exact zxr h3 ((hl.drop o).take n) fun v sv hv h4=>zpD h4 hr hv hk
  ·obtain⟨h2,h3⟩:=zx h1;obtain⟨l,vs,e',h4,h5,h6,h7,h8⟩:=zCx h3 hr.q;rw[he] at h4;cases h4;rcases h8 with rfl|h8
   ·cases h2
   ·rw[h8];exact zxr h7 (h6.sc _) fun v sv hv h9=>zpD h9 hr hv hk
theorem zNe:∀ {rs:List zd} {σ:List E} {s:S} {t:St} {K:List W→S→R},zAA rs s K=some y→SR σ s t→∀ {k:List Value→St→Prop},(∀ σ' ws us s' t',Ext σ t σ' t'→SR σ' s' t'→All2 (WR σ') ws us→K ws s'=some y→k us t')→zF2 rs t k
 | [],σ,s,t,K,h,hr,k,hk=>hk σ [] [] s t Ext.rfl' hr trivial h
 | r::rs,σ,s,t,K,h,hr,k,hk=>by
  refine zS8 (K:=fun w s'=>zAA rs s' fun ws s''=>K (w::ws) s'') h hr fun σ' w u s' t' hx hr' hw h1=>?_
  exact zNe h1 hr' fun σ'' ws us s'' t'' hx' hr'' hws h2=>hk σ'' (w::ws) (u::us) s'' t'' (hx.trans hx') hr'' ⟨hw.ext hx',hws⟩ h2
theorem zHG {v:V} (h:outS v s=some y):y = .rt v s.n s.H:=by
 obtain⟨nl,tl,L,bx,n,H,g⟩:=s;exact(Option.some.inj h).symm
theorem OVR.ofW {w:W} {u:Value} (h:WR σ w u):OVR σ (V.ofW w) u:=by cases w<;>exact h
theorem zT3 {ws:List W} {us:List Value} (h:zD2 ws s=some y) (hr:SR σ s t) (hws:All2 (WR σ) ws us) {v:V} {n':Nat} {H':T O} (hy:y = .rt v n' H'):zSg us t fun u M'=>σ.length=n'∧OVR σ v u∧HR σ H' M':=by
 obtain⟨fr,bx,M⟩:=t
 match ws,us,hws with
 | [w],[u],hws=>
  have:=zHG (v:=V.ofW w) h;rw[hy] at this;cases this;exact⟨hr.n.symm,OVR.ofW hws.1,hr.h⟩
 | [],[],_=>
  have:=zHG (v := .tp []) h;rw[hy] at this;cases this;exact⟨hr.n.symm,⟨[],trivial,rfl⟩,hr.h⟩
 | w::w'::ws,u::u'::us,hws=>
  have:=zHG (v := .tp (w::w'::ws)) h;rw[hy] at this;cases this;exact⟨hr.n.symm,⟨_,hws,rfl⟩,hr.h⟩
 | [_],_::_::_,h=>exact h.2.elim
 | _::_::_,[_],h=>exact h.2.elim
theorem zJo:∀ (n:Nat) (K:List (Option V)→R),zOf n K=K (List.replicate n none)
 | 0,_=>rfl
 | n+1,K=>zJo n fun r=>K (none::r)
theorem zNf:∀ {ws:List W} {L:List (Option V)} {K:List (Option V)→R},zOg ws L K=some y→ws.length≤L.length∧K (ws.map (fun w=>some (V.ofW w))++L.drop ws.length)=some y
 | [],_,_,h=>⟨Nat.zero_le _,h⟩
 | _::_,[],_,h=>by cases h
 | w::ws,a::L,K,h=>by
  obtain⟨h1,h2⟩:=zNf (ws:=ws) (L:=L) (K:=fun r=>K (some (V.ofW w)::r)) h;exact⟨Nat.succ_le_succ h1,h2⟩
theorem args0_lk:∀ {vs:List Value} {i d:Nat} {v:Value},vs[d]? = some v→lk (zp5 i vs) (i+d)=some (zf4 v)
 | v::vs,i,0,u,h=>by
  show lk ((i,zf4 v)::zp5 (i+1) vs) (i+0)=_;rw[zq6,if_pos (by simp)];simp at h;rw[h]
 | v::vs,i,d+1,u,h=>by
  show lk ((i,zf4 v)::zp5 (i+1) vs) (i+(d+1))=_;rw[zq6,if_neg (by omega),show i+(d+1)=i+1+d by omega];exact args0_lk (by simpa using h)
 | [],_,_,_,h=>by simp at h
theorem zS9 (hF:FOk P F) {N:Nat} {f:FC} {ws:List W} {n:Nat} {H:T O} (h:body F N f ws n H=some y) {v:V} {n':Nat} {H':T O} (hy:y = .rt v n' H') {σ:List E} {M:Mem} {vs:List Value} (hn:σ.length=n) (hh:HR σ H M) (hws:All2 (WR σ) ws vs) :
  ws.length≤f.nl∧vfn P f.c f.rs vs M fun u M'=>∃ τ,(σ++τ).length=n'∧OVR (σ++τ) v u∧HR (σ++τ) H' M':=by
 obtain⟨nl,c,rs⟩:=f;have h':(zOf nl fun L=>zOg ws L fun L'=>zoU F N c ⟨nl,[],L',[],n,H,none⟩ fun e s=>X.rec (zAA rs s zD2) (zAA rs s zD2) (fun _=>fail) e)=some y:=h
 rw[zJo] at h';obtain⟨h1,h2⟩:=zNf h';rw[List.length_replicate] at h1;refine⟨h1,?_⟩;show zaC _ _
 rw[zad]
 have hs:SR σ ⟨nl,[],ws.map (fun w=>some (V.ofW w))++(List.replicate nl none).drop ws.length,[],n,H,none⟩ ⟨zp5 0 vs,[],M⟩:=by
  refine⟨hn.symm,fun d u hd=>?_,trivial,hh⟩;rw[zlh] at hd;split at hd
  ·cases hd
  ·by_cases hdl:d<ws.length
   ·rw[List.getElem?_append_left (by simpa using hdl),List.getElem?_map] at hd;obtain⟨w,hw⟩:∃ w,ws[d]? = some w:=⟨_,List.getElem?_eq_getElem hdl⟩
    rw[hw] at hd;simp at hd;subst hd;obtain⟨u,hu,hwu⟩:=hws.at_ hw;refine⟨by cases w<;>simp[V.ofW],zf4 u,?_,zxp hwu⟩;have:=args0_lk (i:=0) hu
    rwa [Nat.zero_add] at this
   ·rw[List.getElem?_append_right (by simpa using hdl)] at hd;simp only[List.length_map,List.getElem?_drop,List.getElem?_replicate] at hd;split at hd<;>simp at hd
 refine zpF hF N c h2 hs fun e σ' s' t' hx hr' h3=>?_
 have fin:zAA rs s' zD2=some y→zGd rs t' fun u M'=>∃ τ,(σ++τ).length=n'∧OVR (σ++τ) v u∧HR (σ++τ) H' M':=fun h4=>by
  refine zNe h4 hr' fun σ'' ws' us s'' t'' hx' hr'' hws' h5=>?_
  have:=zT3 h5 hr'' hws' hy;obtain⟨τ,rfl⟩:=(hx.trans hx').σ;obtain⟨fr,bx,M2⟩:=t''
  match us,this with
  | [u],this=>exact⟨τ,this⟩
  | [],this=>exact⟨τ,this⟩
  | _::_::_,this=>exact⟨τ,this⟩
 cases e with
 | normal=>exact fin h3
 | ret=>exact fin h3
 | exit i=>cases h3
def Prim (P:Program) (g:Nat) (p:List W→Nat→T O→R):Prop:=∀ {ws:List W} {n:Nat} {H:T O} {v:V} {n':Nat} {H':T O},p ws n H=some (.rt v n' H') →
 ∀ {σ:List E} {M:Mem} {vs:List Value},σ.length=n→HR σ H M→All2 (WR σ) ws vs→CallsM P g vs M fun u M'=>∃ τ,(σ++τ).length=n'∧OVR (σ++τ) v u∧HR (σ++τ) H' M'
theorem zQC {prim:T (List W→Nat→T O→R)} {tab:T FC} {N:Nat} (hp:∀ g p,prim.get g=some p→Prim P g p) (htab:∀ g f,tab.get g=some f→∀ {args:List Value} {M:Mem} {R:Value→Mem→Prop},args.length≤f.nl→vfn P f.c f.rs args M R→CallsM P g args M R):∀ d,FOk P (run prim tab N d)
 | 0=>fun h _ _ _ _=>by cases h
 | d+1=>by
  intro h v n' H' hy σ M vs hn hh hws;rename_i g ws n H y;have h':(Option.rec (oV (tab.get g) fun f=>body (run prim tab N d) N f ws n H) (fun p=>p ws n H) (prim.get g):R)=some y:=h
  cases hg:prim.get g with
  | some p=>
   rw[hg] at h';subst hy;exact hp g p hg h' hn hh hws
  | none=>
   rw[hg] at h';obtain⟨f,h1,h2⟩:=zji (K:=fun f=>body (run prim tab N d) N f ws n H) h';obtain⟨h3,h4⟩:=zS9 (zQC hp htab d) h2 hy hn hh hws;exact htab _ f h1 (by rw[←hws.len];exact h3) h4
end
def T.All {α:Type} (p:Nat→α→Prop):T α→Prop
 | .e=>True
 | .n l v r=>(∀ x,v=some x→p 0 x)∧l.All (fun k x=>p (2*k+1) x)∧r.All (fun k x=>p (2*k+2) x)
theorem T.All.get {α:Type}:∀ {t:T α} {p:Nat→α→Prop},t.All p→∀ {k:Nat} {x:α},t.get k=some x→p k x
 | .e,_,_,_,_,h=>by cases h
 | .n l v r,p,ha,0,x,h=>ha.1 x h
 | .n l v r,p,ha,m+1,x,h=>by
  rw[T.get_1] at h;split at h
  ·rename_i hm;have hm':m % 2=1:=Nat.eq_of_beq_eq_true hm
   have:=ha.2.2.get h
   rwa [show 2*(m / 2)+2=m+1 by omega] at this
  ·rename_i hm;have hm':m % 2≠1:=fun e=>by rw[e] at hm;exact hm rfl
   have:=ha.2.1.get h
   rwa [show 2*(m / 2)+1=m+1 by omega] at this
theorem T.All.nil {α:Type} {p:Nat→α→Prop}:(T.e:T α).All p:=trivial
theorem T.All.no {α:Type} {p:Nat→α→Prop} {l r:T α} (hl:l.All fun k x=>p (2*k+1) x) (hr:r.All fun k x=>p (2*k+2) x):(T.n l none r).All p:=⟨fun _ h=>(by cases h),hl,hr⟩
theorem T.All.at {α:Type} {p:Nat→α→Prop} {l r:T α} {x:α} (hx:p 0 x) (hl:l.All fun k x=>p (2*k+1) x) (hr:r.All fun k x=>p (2*k+2) x):(T.n l (some x) r).All p:=⟨fun _ h=>(by cases h;exact hx),hl,hr⟩
def Worth (P:Program) (g:Nat) (f:FC):Prop:=∀ {args:List Value} {M:Mem} {R:Value→Mem→Prop},args.length≤f.nl→vfn P f.c f.rs args M R→CallsM P g args M R
theorem run_ok {P:Program} {prim:T (List W→Nat→T O→R)} {tab:T FC} (hp:prim.All (Prim P)) (h:tab.All (Worth P)) (N d:Nat):FOk P (run prim tab N d):=zQC (fun g p hg=>T.All.get hp hg) (fun g f hg=>T.All.get h hg) d
end
end Go.Vm.Rn
