/- Part of this proof;laid by program. -/
import Derived.Test.YtpnhjkiligohnaaGreatDoorJ14
set_option linter.unusedVariables false
set_option linter.unusedSimpArgs false
namespace Go.Vm.Rn
open Go.Vm
def All2 {α β:Type} (Q:α→β→Prop):List α→List β→Prop
 | [],[]=>True
 | a::l,b::r=>Q a b∧All2 Q l r
 | _,_=>False
namespace All2
variable {α β γ:Type} {Q Q':α→β→Prop}
theorem len:∀ {l:List α} {r:List β},All2 Q l r→l.length=r.length
 | [],[],_=>rfl
 | _::_,_::_,h=>congrArg (· + 1) (len h.2)
 | [],_::_,h=>h.elim
 | _::_,[],h=>h.elim
theorem imp (hq:∀ a b,Q a b→Q' a b):∀ {l:List α} {r:List β},All2 Q l r→All2 Q' l r
 | [],[],_=>trivial
 | _::_,_::_,h=>⟨hq _ _ h.1,imp hq h.2⟩
 | [],_::_,h=>h.elim
 | _::_,[],h=>h.elim
theorem drop:∀ (n:Nat) {l:List α} {r:List β},All2 Q l r→All2 Q (l.drop n) (r.drop n)
 | 0,_,_,h=>h
 | _+1,[],[],_=>trivial
 | n+1,_::_,_::_,h=>drop n h.2
 | _+1,[],_::_,h=>h.elim
 | _+1,_::_,[],h=>h.elim
theorem take:∀ (n:Nat) {l:List α} {r:List β},All2 Q l r→All2 Q (l.take n) (r.take n)
 | 0,_,_,_=>by simp[All2]
 | _+1,[],[],_=>trivial
 | n+1,_::_,_::_,h=>⟨h.1,take n h.2⟩
 | _+1,[],_::_,h=>h.elim
 | _+1,_::_,[],h=>h.elim
theorem append:∀ {l l':List α} {r r':List β},All2 Q l r→All2 Q l' r'→All2 Q (l++l') (r++r')
 | [],_,[],_,_,h=>h
 | _::_,_,_::_,_,h,h'=>⟨h.1,append h.2 h'⟩
 | [],_,_::_,_,h,_=>h.elim
 | _::_,_,[],_,h,_=>h.elim
theorem at_:∀ {l:List α} {r:List β},All2 Q l r→∀ {k:Nat} {a:α},l[k]? = some a→∃ b,r[k]? = some b∧Q a b
 | _::_,_::_,h,0,a,ha=>⟨_,rfl,by simp at ha;subst ha;exact h.1⟩
 | _::_,_::_,h,k+1,a,ha=>by simpa using at_ h.2 (k:=k) (a:=a) (by simpa using ha)
 | [],[],_,_,_,ha=>by simp at ha
 | [],_::_,h,_,_,_=>h.elim
 | _::_,[],h,_,_,_=>h.elim
theorem set:∀ {l:List α} {r:List β},All2 Q l r→∀ {k:Nat} {a:α} {b:β},Q a b→All2 Q (l.set k a) (r.set k b)
 | [],[],_,_,_,_,_=>trivial
 | _::_,_::_,h,0,_,_,hq=>⟨hq,h.2⟩
 | _::_,_::_,h,_+1,_,_,hq=>⟨h.1,set h.2 hq⟩
 | [],_::_,h,_,_,_,_=>h.elim
 | _::_,[],h,_,_,_,_=>h.elim
theorem map {f:β→γ} {Q'':α→γ→Prop} (hf:∀ a b,Q a b→Q'' a (f b)):∀ {l:List α} {r:List β},All2 Q l r→All2 Q'' l (r.map f)
 | [],[],_=>trivial
 | _::_,_::_,h=>⟨hf _ _ h.1,map hf h.2⟩
 | [],_::_,h=>h.elim
 | _::_,[],h=>h.elim
theorem fn (hq:∀ a b b',Q a b→Q a b'→b=b'):∀ {l:List α} {r r':List β},All2 Q l r→All2 Q l r'→r=r'
 | [],[],[],_,_=>rfl
 | _::_,_::_,_::_,h,h'=>by rw[hq _ _ _ h.1 h'.1,fn hq h.2 h'.2]
 | [],_::_,_,h,_=>h.elim
 | [],[],_::_,_,h=>h.elim
 | _::_,[],_,h,_=>h.elim
 | _::_,_::_,[],_,h=>h.elim
end All2
theorem zr {b:Bool} {t:R} {y:Out} (h:cB b t fail=some y):b=true∧t=some y:=by cases b<;>simp_all [cB,fail]
theorem zgh {α:Type} {x:Option α} {K:α→R} {y:Out} (h:oV x K=some y):∃ v,x=some v∧K v=some y:=by cases x<;>simp_all [oV,fail]
theorem fN_eq (k:Nat→R) (n:Nat):fN k n=k n:=by cases n<;>rfl
theorem zKh (k:Int→R) (n:Int):fI k n=k n:=by cases n<;>simp only[fI,fN_eq]
theorem zpb {b:Bool} {K:V→R}:kB b K=K (.c (.t b)):=by cases b<;>rfl
theorem zbA {α:Type} (l:List α) (K:Nat→R):zc5 l K=K l.length:=by
 unfold zc5;rw[fN_eq];congr 1
 induction l with
 | nil=>rfl
 | cons a r ih=>simp only[List.length_cons,←ih]
theorem zj5 {α:Type}:∀ (l r:List α) (K:List α→R),appK l r K=K (l++r)
 | [],_,_=>rfl
 | a::l,r,K=>zj5 l r fun r'=>K (a::r')
theorem ztM {α:Type} (l:List α):∀ (n:Nat) (K:List α→R),zwj l n K=K (List.replicate n l).flatten
 | 0,_=>rfl
 | n+1,K=>by
  have h:zwj l (n+1) K=zwj l n fun r=>appK l r K:=rfl
  rw[h,ztM l n,zj5];rfl
theorem zyZ {α:Type} {y:Out}:∀ {n:Nat} {l:List α} {K:List α→R},zD2 n l K=some y→n≤l.length∧K (l.drop n)=some y
 | 0,_,_,h=>⟨Nat.zero_le _,h⟩
 | _+1,[],_,h=>by cases h
 | n+1,_::l,K,h=>by
  obtain⟨h1,h2⟩:=zyZ (n:=n) (l:=l) (K:=K) h;exact⟨Nat.succ_le_succ h1,h2⟩
theorem zpC {α:Type} {y:Out}:∀ {n:Nat} {l:List α} {K:List α→R},zng n l K=some y→n≤l.length∧K (l.take n)=some y
 | 0,_,_,h=>⟨Nat.zero_le _,h⟩
 | _+1,[],_,h=>by cases h
 | n+1,a::l,K,h=>by
  obtain⟨h1,h2⟩:=zpC (n:=n) (l:=l) (K:=fun r=>K (a::r)) h;exact⟨Nat.succ_le_succ h1,h2⟩
theorem zC3 {α:Type} {y:Out}:∀ {vs l:List α} {K:List α→R},zJ7 vs l K=some y→vs.length≤l.length∧K (vs++l.drop vs.length)=some y
 | [],_,_,h=>⟨Nat.zero_le _,h⟩
 | _::_,[],_,h=>by cases h
 | v::vs,a::l,K,h=>by
  obtain⟨h1,h2⟩:=zC3 (vs:=vs) (l:=l) (K:=fun r=>K (v::r)) h;exact⟨Nat.succ_le_succ h1,h2⟩
theorem zs9 {α:Type} {y:Out}:∀ {o:Nat} {l vs:List α} {K:List α→R},zyV o l vs K=some y→o+vs.length≤l.length∧K (splice l o vs)=some y
 | 0,l,vs,K,h=>by
  obtain⟨h1,h2⟩:=zC3 (vs:=vs) (l:=l) (K:=K) h;exact⟨by omega,by simpa[splice] using h2⟩
 | _+1,[],_,_,h=>by cases h
 | o+1,a::l,vs,K,h=>by
  obtain⟨h1,h2⟩:=zs9 (o:=o) (l:=l) (vs:=vs) (K:=fun r=>K (a::r)) h;refine⟨by simp only[List.length_cons];omega,?_⟩;have e:splice (a::l) (o+1) vs=a::splice l o vs:=by simp[splice,Nat.add_right_comm o 1]
  rw[e];exact h2
theorem zpD {α:Type} {y:Out}:∀ {l:List α} {k:Nat} {K:α→R},zs5 l k K=some y→∃ a,l[k]? = some a∧K a=some y
 | [],_,_,h=>by cases h
 | a::_,0,_,h=>⟨a,rfl,h⟩
 | _::l,k+1,K,h=>by simpa using zpD (l:=l) (k:=k) (K:=K) h
theorem zBs {α:Type} {y:Out}:∀ {l:List α} {k:Nat} {x:α} {K:List α→R},setK l k x K=some y→k<l.length∧K (l.set k x)=some y
 | [],_,_,_,h=>by cases h
 | _::l,0,_,_,h=>⟨by simp,h⟩
 | a::l,k+1,x,K,h=>by
  obtain⟨h1,h2⟩:=zBs (l:=l) (k:=k) (x:=x) (K:=fun r=>K (a::r)) h;exact⟨by simp only[List.length_cons];omega,h2⟩
theorem zGG {α:Type} {y:Out}:∀ {l:List α} {k:Nat} {K:List α→R},zHY l k K=some y→k<l.length∧K (l.eraseIdx k)=some y
 | [],_,_,h=>by cases h
 | _::l,0,_,h=>⟨by simp,h⟩
 | a::l,k+1,K,h=>by
  obtain⟨h1,h2⟩:=zGG (l:=l) (k:=k) (K:=fun r=>K (a::r)) h;exact⟨by simp only[List.length_cons];omega,h2⟩
theorem zpE {cs:List C} {o n:Nat} {K:List C→R} {y:Out} (h:takeC cs o n K=some y):o+n≤cs.length∧K ((cs.drop o).take n)=some y:=by
 obtain⟨h1,h2⟩:=zyZ h;obtain⟨h3,h4⟩:=zpC h2;rw[List.length_drop] at h3;exact⟨by omega,h4⟩
namespace T
variable {α:Type}
theorem get_1 (l r:T α) (v:Option α) (m:Nat):(T.n l v r).get (m+1)=if Nat.beq (m % 2) 1 then r.get (m / 2) else l.get (m / 2):=by
 show (Bool.rec (l.get (m / 2)) (r.get (m / 2)) (Nat.beq (m % 2) 1):Option α)=_;cases Nat.beq (m % 2) 1<;>rfl
noncomputable def put (t:T α) (k:Nat) (x:Option α):T α:=t.set k x id
theorem set_put {ρ:Type}:∀ (t:T α) (k:Nat) (x:Option α) (K:T α→ρ),t.set k x K=K (t.put k x)
 | .e,_,_,_=>rfl
 | .n _ _ _,0,_,_=>rfl
 | .n l v r,m+1,x,K=>by
  unfold put;show (Bool.rec (l.set (m / 2) x fun l'=>K (.n l' v r)) (r.set (m / 2) x fun r'=>K (.n l v r')) (Nat.beq (m % 2) 1):ρ)=K (Bool.rec (motive:=fun _=>T α) (l.set (m / 2) x fun l'=>id (.n l' v r)) (r.set (m / 2) x fun r'=>id (.n l v r')) (Nat.beq (m % 2) 1))
  cases Nat.beq (m % 2) 1
  ·show l.set (m / 2) x _=K (l.set (m / 2) x _);rw[set_put l,set_put l];rfl
  ·show r.set (m / 2) x _=K (r.set (m / 2) x _);rw[set_put r,set_put r];rfl
theorem zKi (l r:T α) (v:Option α) (m:Nat) (x:Option α):(T.n l v r).put (m+1) x=if Nat.beq (m % 2) 1 then .n l v (r.put (m / 2) x) else .n (l.put (m / 2) x) v r:=by
 unfold put;show (Bool.rec (l.set (m / 2) x fun l'=>id (.n l' v r)) (r.set (m / 2) x fun r'=>id (.n l v r')) (Nat.beq (m % 2) 1):T α)=_
 cases Nat.beq (m % 2) 1
 ·show l.set (m / 2) x _=_;rw[set_put l];rfl
 ·show r.set (m / 2) x _=_;rw[set_put r];rfl
theorem zy0:∀ {f k j:Nat} {x:Option α} {y:α},(T.one f k x).get j=some y→j=k∧x=some y
 | 0,_,_,_,_,h=>by cases h
 | _+1,0,0,x,y,h=>⟨rfl,h⟩
 | _+1,0,j+1,x,y,h=>by
  have e:∀ f,(T.one (f+1) 0 x:T α) = .n .e x .e:=fun _=>rfl
  rw[e,get_1] at h;split at h<;>cases h
 | f+1,m+1,j,x,y,h=>by
  have e:(T.one (f+1) (m+1) x:T α)=Bool.rec (.n (T.one f (m / 2) x) none .e) (.n .e none (T.one f (m / 2) x)) (Nat.beq (m % 2) 1):=rfl;rw[e] at h;cases hm:Nat.beq (m % 2) 1 with
  | true=>
   rw[hm] at h;have hm':m % 2=1:=Nat.eq_of_beq_eq_true hm
   cases j with
   | zero=>cases h
   | succ j=>
    replace h:(T.n .e none (T.one f (m / 2) x):T α).get (j+1)=some y:=h;rw[get_1] at h;split at h
    ·rename_i hj;have hj':j % 2=1:=Nat.eq_of_beq_eq_true hj
     obtain⟨h1,h2⟩:=zy0 h;exact⟨by omega,h2⟩
    ·cases h
  | false=>
   rw[hm] at h;have hm':m % 2≠1:=fun e=>by rw[e] at hm;cases hm
   cases j with
   | zero=>cases h
   | succ j=>
    replace h:(T.n (T.one f (m / 2) x) none .e:T α).get (j+1)=some y:=h;rw[get_1] at h;split at h
    ·cases h
    ·rename_i hj;have hj':j % 2≠1:=fun e=>by rw[e] at hj;exact hj rfl
     obtain⟨h1,h2⟩:=zy0 h;exact⟨by omega,h2⟩
theorem get_put:∀ {t:T α} {k j:Nat} {x:Option α} {y:α},(t.put k x).get j=some y→(j=k∧x=some y)∨(j≠k∧t.get j=some y)
 | .e,k,j,x,y,h => .inl (zy0 (f:=40) (show (T.one 40 k x).get j=some y from h))
 | .n _ _ _,0,0,x,y,h => .inl ⟨rfl,h⟩
 | .n l v r,0,j+1,x,y,h=>by
  have e:(T.n l v r).put 0 x = .n l x r:=rfl;rw[e,get_1] at h;exact .inr ⟨by omega,by rw[get_1];exact h⟩
 | .n l v r,m+1,0,x,y,h=>by
  rw[zKi] at h;refine .inr ⟨by omega,?_⟩;split at h<;>exact h
 | .n l v r,m+1,j+1,x,y,h=>by
  rw[zKi] at h;rw[get_1];cases hm:Nat.beq (m % 2) 1<;>cases hj:Nat.beq (j % 2) 1<;>simp only[hm,Bool.false_eq_true,if_false,if_true] at h<;>rw[get_1,hj] at h<;>simp only[Bool.false_eq_true,if_false,if_true] at h ⊢
  ·have hm':m % 2≠1:=fun e=>by rw[e] at hm;cases hm
   have hj':j % 2≠1:=fun e=>by rw[e] at hj;cases hj
   rcases get_put h with ⟨h1,h2⟩|⟨h1,h2⟩
   ·exact .inl ⟨by omega,h2⟩
   ·exact .inr ⟨by omega,h2⟩
  ·have hm':m % 2≠1:=fun e=>by rw[e] at hm;cases hm
   have hj':j % 2=1:=Nat.eq_of_beq_eq_true hj;exact .inr ⟨by omega,h⟩
  ·have hj':j % 2≠1:=fun e=>by rw[e] at hj;cases hj
   have hm':m % 2=1:=Nat.eq_of_beq_eq_true hm;exact .inr ⟨by omega,h⟩
  ·have hm':m % 2=1:=Nat.eq_of_beq_eq_true hm;have hj':j % 2=1:=Nat.eq_of_beq_eq_true hj
   rcases get_put h with ⟨h1,h2⟩|⟨h1,h2⟩
   ·exact .inl ⟨by omega,h2⟩
   ·exact .inr ⟨by omega,h2⟩
end T
structure E where
 addr:Nat
 cap:Nat
 nil:Bool
 sp:List Value
def zab (l:List Nat):ByteArray:=⟨(l.map UInt8.ofNat).toArray⟩
def C.val (σ:List E):C→Option Value
 | .n q x=>some (.int q x)
 | .t x=>some (.bool x)
 | .s x=>some (.string (zab x))
 | .p a o=>(σ[a]?).map fun e => .pointer (some ⟨e.addr,o,none⟩)
 | .np=>some (.pointer none)
 | .l a o x y=>(σ[a]?).map fun e => .slice (some ⟨e.addr,o,none⟩) x y
 | .g a o d x=>(σ[a]?).bind fun e=>if e.nil=true then (if x=0∧o=0∧d=0 then some (.slice none 0 0) else none) else (if d+x≤e.cap then some (.slice (some ⟨e.addr,o,none⟩) x (e.cap - d)) else none)
 | .nl=>some (.slice none 0 0)
 | .m a=>(σ[a]?).map fun e => .map (some e.addr)
 | .nm=>some (.map none)
 | .b _ _=>none
 | .f x=>some (.func (.func x) #[] #[])
 | .fm x a o=>(σ[a]?).map fun e => .func (.func x) #[.pointer (some ⟨e.addr,o,none⟩)] #[]
 | .h a o d k z w=>(σ[a]?).bind fun e=>if e.nil=false∧d+k≤e.cap then some (.slice (zah (some ⟨e.addr,o,none⟩) k (e.cap - d) z) 0 (if w then 0 else e.cap - d - k)) else none
 | .ni=>some .nilIface
 | .nf=>some .nilFunc
 | .xx a d lo hi=>(σ[a]?).bind fun e=>match e.sp with|[.int .i64 u]=>if lo≤u+d∧u+d≤hi then some (.int .i64 (u+d)) else none|_=>none
def CR (σ:List E) (c:C) (v:Value):Prop:=c.val σ=some v
def SCR (σ:List E) (nb:Nat) (c:C) (x:SC):Prop:=match c with | .b j o=>j<nb∧x = .bx j o|c=>∃ v,c.val σ=some v∧x = .v v
def WR (σ:List E) (w:W) (v:Value):Prop:=match w with | .c x=>CR σ x v | .ag l=>∃ vs,All2 (CR σ) l vs∧v = .agg vs.toArray | .fn g l=>∃ vs,All2 (CR σ) l vs∧v = .func (.func g) #[] vs.toArray
def VR (σ:List E) (nb:Nat) (v:V) (sv:SV):Prop:=
 match v with
 | .c x=>(∃ sc,SCR σ nb x sc∧sv = .c sc)∨(∃ b,x = .t b∧sv = .sb b)
 | .ag l=>∃ cs,All2 (SCR σ nb) l cs∧sv = .ag cs
 | .fn g l=>(∃ cs,All2 (SCR σ nb) l cs∧sv = .fn g cs)∨(∃ vs,All2 (CR σ) l vs∧sv = .c (.v (.func (.func g) #[] vs.toArray)))
 | .tp l=>∃ vs,All2 (WR σ) l vs∧sv = .c (.v (.tuple vs.toArray))
 | .sl j n=>j<nb∧sv = .sl j n
 | .dead=>sv = .dead
def OVR (σ:List E) (v:V) (x:Value):Prop:=match v with | .c c=>CR σ c x | .ag l=>WR σ (.ag l) x | .fn g l=>WR σ (.fn g l) x | .tp l=>∃ vs,All2 (WR σ) l vs∧x = .tuple vs.toArray|_=>False
def EnR (σ:List E) (e:En) (m:MapEntry):Prop:=WR σ e.key m.key∧WR σ e.val m.val∧m.born=e.born
def mR (σ:List E) (m:Option Nat) (x:Option Nat):Prop:=match m with|none=>x=none|some a=>∃ e,σ[a]? = some e∧x=some e.addr
def OR (σ:List E) (e:E) (o:O) (M:Mem):Prop:=
 match o with
 | .row T l=>e.nil=false∧∃ vs,All2 (CR σ) l vs∧M e.addr=some (.cells vs.toArray T (0,0))
 | .ro T l=>e.nil=false∧∃ vs,All2 (CR σ) l vs∧M e.addr=some (.cells vs.toArray T (vs.length,vs.length+1))
 | .gr T z l=>∃ vs,All2 (CR σ) l vs∧((e.nil=true∧l=[]∧e.cap=0)∨(e.nil=false∧M e.addr=some (.cells (vs++e.sp).toArray T (0,0))∧(vs++e.sp).length=e.cap*z))
 | .mp es c=>e.nil=false∧∃ ms,All2 (EnR σ) es ms∧M e.addr=some (.map ms.toArray c)
 | .it m a s t=>e.nil=false∧∃ x,mR σ m x∧M e.addr=some (.mapIter x a s.toArray t)
 | .si l p=>e.nil=false∧M e.addr=some (.stringIter (zab l) p)
def BR (σ:List E) (nb:Nat) (b:B) (x:BE):Prop:=match b with | .live T l=>∃ cs,All2 (SCR σ nb) l cs∧x = .live T cs | .gone a=>∃ e,σ[a]? = some e∧x = .gone e.addr | .dark=>∃ a,x = .gone a
def FR (σ:List E) (nb:Nat) (s:S) (fr:List (Nat×SV)):Prop:=∀ d v,s.fget d=some v→v ≠ .dead∧∃ sv,lk fr d=some sv∧VR σ nb v sv
structure HR (σ:List E) (H:T O) (M:Mem):Prop where
 has:∀ a o,H.get a=some o→∃ e,σ[a]? = some e∧OR σ e o M
 inj:∀ a b oa ob ea eb,H.get a=some oa→H.get b=some ob→σ[a]? = some ea→σ[b]? = some eb→ea.nil=false→eb.nil=false→ea.addr=eb.addr→a=b
structure SR (σ:List E) (s:S) (t:St):Prop where
 n:s.n=σ.length
 fr:FR σ t.bx.length s t.fr
 bx:All2 (BR σ t.bx.length) s.bx t.bx
 h:HR σ s.H t.M
def S.rd (s:S) (a:Nat):Prop:=match s.g with|none=>True|some l=>mem a l=true
structure QR (σ:List E) (nb:Nat) (s:S) (t:St):Prop where
 fr:FR σ nb s t.fr
 bx:All2 (BR σ nb) s.bx t.bx
 h:∀ a o,s.rd a→s.H.get a=some o→∃ e,σ[a]? = some e∧OR σ e o t.M
theorem SR.q {σ:List E} {s:S} {t:St} (h:SR σ s t):QR σ t.bx.length s t:=⟨h.fr,h.bx,fun a o _ ha=>h.h.has a o ha⟩
theorem C.val_mono {σ:List E} (τ:List E) {c:C} {v:Value} (h:c.val σ=some v):c.val (σ++τ)=some v:=by
 have key:∀ {a:Nat} {e:E},σ[a]? = some e→(σ++τ)[a]? = some e:=fun {a e} he=>by
  rw[List.getElem?_append_left (List.getElem?_eq_some_iff.1 he).1];exact he
 cases c with
 | p a o=>simp only[C.val,Option.map_eq_some_iff] at h ⊢; obtain⟨e,h1,h2⟩:=h;exact⟨e,key h1,h2⟩
 | l a o n c=>simp only[C.val,Option.map_eq_some_iff] at h ⊢; obtain⟨e,h1,h2⟩:=h;exact⟨e,key h1,h2⟩
 | m a=>simp only[C.val,Option.map_eq_some_iff] at h ⊢; obtain⟨e,h1,h2⟩:=h;exact⟨e,key h1,h2⟩
 | g a o d n=>simp only[C.val,Option.bind_eq_some_iff] at h ⊢; obtain⟨e,h1,h2⟩:=h;exact⟨e,key h1,h2⟩
 | fm g a o=>simp only[C.val,Option.map_eq_some_iff] at h ⊢; obtain⟨e,h1,h2⟩:=h;exact⟨e,key h1,h2⟩
 | h a o d k z w=>simp only[C.val,Option.bind_eq_some_iff] at h ⊢; obtain⟨e,h1,h2⟩:=h;exact⟨e,key h1,h2⟩
 | xx a d lo hi=>simp only[C.val,Option.bind_eq_some_iff] at h ⊢; obtain⟨e,h1,h2⟩:=h;exact⟨e,key h1,h2⟩
 | _=>exact h
theorem CR.mono {σ:List E} (τ:List E) {c:C} {v:Value} (h:CR σ c v):CR (σ++τ) c v:=C.val_mono τ h
theorem SCR.mono {σ:List E} {nb nb':Nat} (τ:List E) (hn:nb≤nb') {c:C} {x:SC} (h:SCR σ nb c x):SCR (σ++τ) nb' c x:=by
 cases c with
 | b j o=>exact⟨Nat.lt_of_lt_of_le h.1 hn,h.2⟩
 | _=>obtain⟨v,h1,h2⟩:=h;exact⟨v,C.val_mono τ h1,h2⟩
theorem WR.mono {σ:List E} (τ:List E) {w:W} {v:Value} (h:WR σ w v):WR (σ++τ) w v:=by
 cases w with
 | c x=>exact CR.mono τ h
 | ag l=>obtain⟨vs,h1,h2⟩:=h;exact⟨vs,h1.imp fun _ _=>CR.mono τ,h2⟩
 | fn g l=>obtain⟨vs,h1,h2⟩:=h;exact⟨vs,h1.imp fun _ _=>CR.mono τ,h2⟩
theorem VR.mono {σ:List E} {nb nb':Nat} (τ:List E) (hn:nb≤nb') {v:V} {sv:SV} (h:VR σ nb v sv):VR (σ++τ) nb' v sv:=by
 cases v with
 | c x=>exact h.imp (fun ⟨sc,h1,h2⟩=>⟨sc,h1.mono τ hn,h2⟩) id
 | ag l=>obtain⟨cs,h1,h2⟩:=h;exact⟨cs,h1.imp fun _ _=>SCR.mono τ hn,h2⟩
 | fn g l=>exact h.imp (fun ⟨cs,h1,h2⟩=>⟨cs,h1.imp fun _ _=>SCR.mono τ hn,h2⟩) (fun ⟨vs,h1,h2⟩=>⟨vs,h1.imp fun _ _=>CR.mono τ,h2⟩)
 | tp l=>obtain⟨vs,h1,h2⟩:=h;exact⟨vs,h1.imp fun _ _=>WR.mono τ,h2⟩
 | sl j n=>exact⟨Nat.lt_of_lt_of_le h.1 hn,h.2⟩
 | dead=>exact h
theorem zlN {σ:List E} (τ:List E) {a:Nat} {e:E} (he:σ[a]? = some e):(σ++τ)[a]? = some e:=by
 rw[List.getElem?_append_left (List.getElem?_eq_some_iff.1 he).1];exact he
theorem EnR.mono {σ:List E} (τ:List E) {e:En} {m:MapEntry} (h:EnR σ e m):EnR (σ++τ) e m:=⟨h.1.mono τ,h.2.1.mono τ,h.2.2⟩
theorem OR.mono {σ:List E} (τ:List E) {e:E} {o:O} {M:Mem} (h:OR σ e o M):OR (σ++τ) e o M:=by
 cases o with
 | row T l=>obtain⟨h0,vs,h1,h2⟩:=h;exact⟨h0,vs,h1.imp fun _ _=>CR.mono τ,h2⟩
 | ro T l=>obtain⟨h0,vs,h1,h2⟩:=h;exact⟨h0,vs,h1.imp fun _ _=>CR.mono τ,h2⟩
 | gr T z l=>obtain⟨vs,h1,h2⟩:=h;exact⟨vs,h1.imp fun _ _=>CR.mono τ,h2⟩
 | mp es c=>obtain⟨h0,ms,h1,h2⟩:=h;exact⟨h0,ms,h1.imp fun _ _=>EnR.mono τ,h2⟩
 | it m a s t=>
  obtain⟨h0,x,h1,h2⟩:=h;refine⟨h0,x,?_,h2⟩;cases m with
  | none=>exact h1
  | some a=>obtain⟨e,h3,h4⟩:=h1;exact⟨e,zlN τ h3,h4⟩
 | si l p=>exact h
theorem BR.mono {σ:List E} {nb nb':Nat} (τ:List E) (hn:nb≤nb') {b:B} {x:BE} (h:BR σ nb b x):BR (σ++τ) nb' b x:=by
 cases b with
 | live T l=>obtain⟨cs,h1,h2⟩:=h;exact⟨cs,h1.imp fun _ _=>SCR.mono τ hn,h2⟩
 | gone a=>obtain⟨e,h1,h2⟩:=h;exact⟨e,zlN τ h1,h2⟩
 | dark=>exact h
theorem FR.mono {σ:List E} {nb nb':Nat} (τ:List E) (hn:nb≤nb') {s:S} {fr:List (Nat×SV)} (h:FR σ nb s fr):FR (σ++τ) nb' s fr:=fun d v hd=>by
 obtain⟨h0,sv,h1,h2⟩:=h d v hd;exact⟨h0,sv,h1,h2.mono τ hn⟩
theorem CR.fn {σ:List E} {c:C} {v v':Value} (h:CR σ c v) (h':CR σ c v'):v=v':=by unfold CR at h h';rw[h] at h';exact Option.some.inj h'
theorem CR.sc {σ:List E} {nb:Nat} {c:C} {v:Value} (h:CR σ c v):SCR σ nb c (.v v):=by
 cases c with
 | b j o=>cases h
 | _=>exact⟨v,h,rfl⟩
theorem C.val_xx {σ:List E} {a:Nat} {d lo hi:Int} {v:Value} (h:(C.xx a d lo hi).val σ=some v):∃ e n,σ[a]? = some e∧e.sp=[.int .i64 n]∧lo≤n+d∧n+d≤hi∧v = .int .i64 (n+d):=by
 simp only[C.val,Option.bind_eq_some_iff] at h;obtain⟨e,h1,h2⟩:=h;split at h2
 ·rename_i n hn;split at h2
  ·rename_i hb;cases h2;exact⟨e,n,h1,hn,hb.1,hb.2,rfl⟩
  ·cases h2
 ·cases h2
theorem CR.one {σ:List E} {c:C} {v:Value} (h:CR σ c v):v.oneCell'=true:=by
 unfold CR at h;by_cases hx:∃ a d lo hi,c = .xx a d lo hi
 ·obtain⟨a,d,lo,hi,rfl⟩:=hx;obtain⟨e,n, -, -, -, -, rfl⟩:=C.val_xx h;rfl
 cases c<;>simp only[C.val,Option.map_eq_some_iff,Option.bind_eq_some_iff,Option.some.injEq,reduceCtorEq] at h<;>first
  | exact(hx ⟨_,_,_,_,rfl⟩).elim
  | (subst h;rfl)
  | (obtain⟨e, -, rfl⟩:=h;rfl)
  | (obtain⟨e, -, h⟩:=h;split at h<;>split at h<;>first|(cases h;rfl)|cases h)
  | (obtain⟨e, -, h⟩:=h;split at h<;>first|(cases h;rfl)|cases h)
theorem zta {σ:List E} {nb:Nat} {c:C} {v:Value} (h:CR σ c v):VR σ nb (.c c) (zdL v):=by
 have h1:=h.one;cases v with
 | bool b=>
  right;refine⟨b,?_,rfl⟩;unfold CR at h;by_cases hx:∃ a d lo hi,c = .xx a d lo hi
  ·obtain⟨a,d,lo,hi,rfl⟩:=hx;obtain⟨e,n, -, -, -, -, h⟩:=C.val_xx h;cases h
  cases c<;>simp only[C.val,Option.map_eq_some_iff,Option.bind_eq_some_iff,Option.some.injEq,reduceCtorEq,and_false,exists_false] at h<;>first
   | exact(hx ⟨_,_,_,_,rfl⟩).elim
   | (cases h;rfl)
   | (obtain⟨e, -, h⟩:=h;split at h<;>split at h<;>cases h)
   | (obtain⟨e, -, h⟩:=h;split at h<;>cases h)
 | agg cs=>cases h1
 | tuple cs=>cases h1
 | _=>exact .inl ⟨_,h.sc,rfl⟩
theorem ztN {σ:List E} {nb:Nat} {w:W} {v:Value} (h:WR σ w v):VR σ nb (V.ofW w) (zdL v):=by
 cases w with
 | c x=>exact zta h
 | ag l=>
  obtain⟨vs,h1,rfl⟩:=h;exact⟨vs.map .v,h1.map fun _ _ h=>CR.sc h,by simp[zdL]⟩
 | fn g l=>
  obtain⟨vs,h1,rfl⟩:=h;exact .inr ⟨vs,h1,rfl⟩
theorem zN0 {σ:List E} {nb:Nat} {v:V} {x:Value} (h:OVR σ v x):VR σ nb v (zdL x):=by
 cases v with
 | c c=>exact zta h
 | ag l=>exact ztN (w := .ag l) h
 | fn g l=>exact ztN (w := .fn g l) h
 | tp l=>obtain⟨vs,h1,rfl⟩:=h;exact⟨vs,h1,rfl⟩
 | sl j n=>exact h.elim
 | dead=>exact h.elim
theorem zLj (s:ByteArray):zab (s.toList.map UInt8.toNat)=s:=by
 unfold zab
 have:(s.toList.map UInt8.toNat).map UInt8.ofNat=s.toList:=by
  rw[List.map_map]
  conv=>rhs;rw[←List.map_id s.toList]
  apply List.map_congr_left;intro a _;simp
 rw[this,ByteArray.toList_eq]
theorem C.ofV_s {v:Value} {c:C} (h:C.ofV v=some c) (σ:List E):CR σ c v:=by
 unfold C.ofV at h
 split at h<;>first
  | (cases h;rfl)
  | (cases h;simp only[CR,C.val,zLj])
  | cases h
theorem zn3 {y:Out} (σ:List E):∀ {vs:List Value} {K:List C→R},zs6 vs K=some y→∃ l,All2 (CR σ) l vs∧K l=some y
 | [],K,h=>⟨[],trivial,h⟩
 | v::vs,K,h=>by
  obtain⟨c,h1,h2⟩:=zgh (K:=fun c=>zs6 vs fun r=>K (c::r)) h;obtain⟨l,h3,h4⟩:=zn3 σ (vs:=vs) (K:=fun r=>K (c::r)) h2;exact⟨c::l,⟨C.ofV_s h1 σ,h3⟩,h4⟩
theorem ofV_s {v:Value} {K:V→R} {y:Out} (h:V.ofV v K=some y) (σ:List E) (nb:Nat):∃ x,(∃ w,(x = .c w∧CR σ w v∨∃ l cs,x = .ag l∧v = .agg cs∧All2 (CR σ) l cs.toList))∧VR σ nb x (zAv v)∧K x=some y:=by
 unfold V.ofV at h;split at h
 ·rename_i cs;obtain⟨l,h1,h2⟩:=zn3 σ h;exact⟨.ag l,⟨.ni,.inr ⟨l,cs,rfl,rfl,h1⟩⟩,⟨cs.toList.map .v,h1.map fun _ _ h=>CR.sc h,rfl⟩,h2⟩
 ·rename_i hv;obtain⟨c,h1,h2⟩:=zgh h;have h3:=C.ofV_s h1 σ
  refine⟨.c c,⟨c,.inl ⟨rfl,h3⟩⟩,.inl ⟨.v v,h3.sc,?_⟩,h2⟩;cases v<;>first|rfl|exact absurd rfl (hv _)
section
variable {σ:List E} {s:S} {t:St} {y:Out} {nb:Nat}
theorem zW {x:Operand} {K:V→R} (h:ev s x K=some y) (hf:FR σ nb s t.fr) {k:SV→Prop} (hk:∀ v sv,v ≠ .dead→VR σ nb v sv→K v=some y→k sv):Vm.ev t x k:=by
 cases x with
 | tmp d=>
  obtain⟨v,h1,h2⟩:=zgh (K:=K) h;obtain⟨h0,sv,h3,h4⟩:=hf d v h1;show evO (lk t.fr d) k
  rw[h3];have h5:=hk v sv h0 h4 h2
  cases sv with
  | dead=>
   exfalso;cases v with
   | c x=>rcases h4 with ⟨_,_,h⟩|⟨_,_,h⟩<;>cases h
   | ag l=>obtain⟨_,_,h⟩:=h4;cases h
   | fn g l=>rcases h4 with ⟨_,_,h⟩|⟨_,_,h⟩<;>cases h
   | tp l=>obtain⟨_,_,h⟩:=h4;cases h
   | sl j n=>cases h4.2
   | dead=>exact h0 rfl
  | _=>exact h5
 | const v=>
  obtain⟨x,⟨w,hx⟩,h1,h2⟩:=ofV_s (K:=K) h σ nb;refine hk x _ ?_ h1 h2;rintro rfl;rcases hx with ⟨h,_⟩|⟨_,_,h,_⟩<;>cases h
 | func f=>exact hk (.c (.f f)) _ (by simp) (.inl ⟨.v (.func (.func f) #[] #[]),CR.sc (c := .f f) rfl,rfl⟩) h
 | global g=>cases h
end
end Go.Vm.Rn
namespace Go.Vm.Rn
open Go.Vm
set_option linter.unusedVariables false
section
variable {σ:List E} {s:S} {t:St} {y:Out} {nb:Nat}
theorem zcE {v:V} {K:C→R} (h:asC v K=some y):∃ x,v = .c x∧K x=some y:=by
 cases v with
 | c x=>exact⟨x,rfl,h⟩
 | _=>cases h
theorem VR.cc {x:C} {sv:SV} (h:VR σ nb (.c x) sv) (hx:∀ b,x ≠ .t b):∃ sc,SCR σ nb x sc∧sv = .c sc:=by
 rcases h with h|⟨b,h, -⟩
 ·exact h
 ·exact absurd h (hx b)
theorem VR.val {x:C} {sv:SV} {v:Value} (h:VR σ nb (.c x) sv) (hv:x.val σ=some v) (hx:∀ b,x ≠ .t b):sv = .c (.v v):=by
 obtain⟨sc,h1,rfl⟩:=h.cc hx;cases x with
 | b j o=>cases hv
 | _=>obtain⟨v',h2,rfl⟩:=h1;rw[hv] at h2;cases h2;rfl
theorem VR.int {k:IntKind} {n:Int} {sv:SV} (h:VR σ nb (.c (.n k n)) sv):sv = .int k n:=h.val rfl (by simp)
theorem zaS {x:C} {v:Value} (h:x.val σ=some v):VR σ nb (.c x) (.c (.v v)) := .inl ⟨.v v,CR.sc h,rfl⟩
theorem zfk {b:Bool}:VR σ nb (.c (.t b)) (.sb b) := .inr ⟨b,rfl,rfl⟩
theorem zEs {v:V} {sv:SV} {K:IntKind→Int→R} (h:asI v K=some y) (hv:VR σ nb v sv) {k:IntKind→Int→Prop} (hk:∀ q n,K q n=some y→k q n):Vm.asI sv k:=by
 obtain⟨x,rfl,h1⟩:=zcE h;split at h1
 ·rename_i q n;rw[hv.int];exact hk _ _ h1
 ·cases h1
theorem zdc {x:Operand} {K:IntKind→Int→R} (h:evI s x K=some y) (hf:FR σ nb s t.fr) {k:IntKind→Int→Prop} (hk:∀ q n,K q n=some y→k q n):Vm.evI t x k:=
 zW h hf fun _ _ _ hv h1=>zEs h1 hv hk
theorem zN1 {v:V} {sv:SV} {K:Bool→R} (h:asB v K=some y) (hv:VR σ nb v sv) {k:Bool→Prop} (hk:∀ b,K b=some y→k b):Vm.asB sv k:=by
 obtain⟨x,rfl,h1⟩:=zcE h;split at h1
 ·rename_i b;rcases hv with ⟨sc,h2,rfl⟩|⟨b',h2,rfl⟩
  ·obtain⟨v',h3,rfl⟩:=h2;cases h3;exact hk _ h1
  ·cases h2;exact hk _ h1
 ·cases h1
theorem zKj {x:Operand} {K:Bool→R} (h:evB s x K=some y) (hf:FR σ nb s t.fr) {k:Bool→Prop} (hk:∀ b,K b=some y→k b):Vm.evB t x k:=
 zW h hf fun _ _ _ hv h1=>zN1 h1 hv hk
theorem zEt {v:V} {sv:SV} {K:Bool→R} (h:asB v K=some y) (hv:VR σ nb v sv) {A B:Prop} (ha:K true=some y→A) (hb:K false=some y→B):brS sv A B:=by
 obtain⟨x,rfl,h1⟩:=zcE h;split at h1
 ·rename_i b;rcases hv with ⟨sc,h2,rfl⟩|⟨b',h2,rfl⟩
  ·obtain⟨v',h3,rfl⟩:=h2;cases h3;cases b
   ·exact hb h1
   ·exact ha h1
  ·cases h2;cases b
   ·exact⟨fun h=>(by cases h),fun _=>hb h1⟩
   ·exact⟨fun _=>ha h1,fun h=>(by cases h)⟩
 ·cases h1
theorem zBt:∀ (l:List BE) (j:Nat),zfy l j=l[j]?
 | [],_=>rfl
 | _::_,0=>rfl
 | _::l,j+1=>by rw[List.getElem?_cons_succ];exact zBt l j
theorem zxV {j:Nat} {kb:TypeId→List C→R} {kp:Nat→R} (h:atB s j kb kp=some y) (hb:All2 (BR σ nb) s.bx t.bx) :
  (∃ T l cs,s.bx[j]? = some (.live T l)∧zfy t.bx j=some (.live T cs)∧All2 (SCR σ nb) l cs∧kb T l=some y)∨(∃ a e,s.bx[j]? = some (.gone a)∧σ[a]? = some e∧zfy t.bx j=some (.gone e.addr)∧kp a=some y):=by
 obtain⟨nl,tl,L,bx,n,H,g⟩:=s;obtain⟨b,h1,h2⟩:=zpD (l:=bx) (k:=j) (K:=fun b=>B.rec (motive:=fun _=>R) kb kp fail b) h;obtain⟨x,h3,h4⟩:=hb.at_ h1;rw[zBt];cases b with
 | live T l=>obtain⟨cs,h5,rfl⟩:=h4;exact .inl ⟨T,l,cs,h1,h3,h5,h2⟩
 | gone a=>obtain⟨e,h5,rfl⟩:=h4;exact .inr ⟨a,e,h1,h5,h3,h2⟩
 | dark=>cases h2
theorem zN2 {v:V} {sv:SV} {kb:Nat→Nat→List C→R} {kp:Nat→Nat→R} (h:asP s v kb kp=some y) (hb:All2 (BR σ nb) s.bx t.bx) (hv:VR σ nb v sv)
  {kb':Nat→Nat→List SC→Prop} {kp':Nat→Nat→Prop} (h1:∀ j o T l cs,s.bx[j]? = some (.live T l)→zfy t.bx j=some (.live T cs)→All2 (SCR σ nb) l cs→kb j o l=some y→kb' j o cs)
  (h2:∀ a o e,σ[a]? = some e→kp a o=some y→kp' e.addr o):Vm.asP t sv kb' kp':=by
 obtain⟨x,rfl,h3⟩:=zcE h;split at h3
 ·rename_i j o;obtain⟨sc,h4,rfl⟩:=hv.cc (by simp);obtain⟨-, rfl⟩:=h4;show Vm.atB (zfy t.bx j) (kb' j o) (fun b=>kp' b o)
  rcases zxV h3 hb with ⟨T,l,cs,h5,h6,h7,h8⟩|⟨a,e,h5,h6,h7,h8⟩
  ·rw[h6];exact h1 _ _ _ _ _ h5 h6 h7 h8
  ·rw[h7];exact h2 _ _ _ h6 h8
 ·rename_i a o;obtain⟨sc,h4,rfl⟩:=hv.cc (by simp);obtain⟨w,h4,rfl⟩:=h4;simp only[C.val,Option.map_eq_some_iff] at h4;obtain⟨e,h5,rfl⟩:=h4;exact h2 _ _ _ h5 h3
 ·cases h3
theorem ztO {x:Operand} {kb:Nat→Nat→List C→R} {kp:Nat→Nat→R} (h:evP s x kb kp=some y) (hf:FR σ nb s t.fr) (hb:All2 (BR σ nb) s.bx t.bx)
  {kb':Nat→Nat→List SC→Prop} {kp':Nat→Nat→Prop} (h1:∀ j o T l cs,s.bx[j]? = some (.live T l)→zfy t.bx j=some (.live T cs)→All2 (SCR σ nb) l cs→kb j o l=some y→kb' j o cs)
  (h2:∀ a o e,σ[a]? = some e→kp a o=some y→kp' e.addr o):Vm.evP t x kb' kp':=
 zW h hf fun _ _ _ hv h3=>zN2 h3 hb hv h1 h2
theorem zxW {v:V} {sv:SV} {K:List C→R} (h:asAg v K=some y) (hv:VR σ nb v sv):∃ l cs,sv = .ag cs∧All2 (SCR σ nb) l cs∧K l=some y:=by
 cases v with
 | ag l=>obtain⟨cs,h1,h2⟩:=hv;exact⟨l,cs,h2,h1,h⟩
 | _=>cases h
theorem znq {v:V} {sv:SV} {K:List Nat→R} (h:asStr v K=some y) (hv:VR σ nb v sv):∃ l,sv = .c (.v (.string (zab l)))∧K l=some y:=by
 obtain⟨x,rfl,h1⟩:=zcE h;split at h1
 ·exact⟨_,hv.val rfl (by simp),h1⟩
 ·cases h1
theorem zMR {v:V} {sv:SV} {K:List W→R} (h:asTp v K=some y) (hv:VR σ nb v sv):∃ l vs,sv = .c (.v (.tuple vs.toArray))∧All2 (WR σ) l vs∧K l=some y:=by
 cases v with
 | tp l=>obtain⟨vs,h1,h2⟩:=hv;exact⟨l,vs,h2,h1,h⟩
 | _=>cases h
theorem ztP {g:Bool} {l:List C} {cs:List SC} {K:V→R} (h:mkv g l K=some y) (hl:All2 (SCR σ nb) l cs) {k:SV→Prop} (hk:∀ v sv,VR σ nb v sv→K v=some y→k sv):Vm.mkv g cs k:=by
 cases g with
 | true=>
  show zan cs fun l=>k (.ag l)
  rw[z8];exact hk (.ag l) _ ⟨cs,hl,rfl⟩ h
 | false=>
  match l,cs,hl,h with
  | [],_,_,h=>cases h
  | [x],[c],hl,h=>exact hk (.c x) _ (.inl ⟨c,hl.1,rfl⟩) h
  | [_],[],hl,_=>exact hl.elim
  | [_],_::_::_,hl,_=>exact hl.2.elim
  | _::_::_,_,_,h=>cases h
theorem zrd {cs:List SC} {o n:Nat} (h:o+n≤cs.length):Vm.takeC cs o n=some ((cs.drop o).take n):=by unfold Vm.takeC;rw[if_pos h]
theorem ztb {v:V} {sv:SV} {K:List C→R} (h:cellsOf v K=some y) (hv:VR σ nb v sv):∃ l cs,Vm.cellsOf sv=some cs∧All2 (SCR σ nb) l cs∧K l=some y:=by
 cases v with
 | c x=>
  rcases hv with ⟨sc,h1,rfl⟩|⟨b,rfl,rfl⟩
  ·refine⟨[x],[sc],?_,⟨h1,trivial⟩,h⟩;cases x with
   | b j o=>obtain⟨-, rfl⟩:=h1;rfl
   | _=>
    obtain⟨w,h2,rfl⟩:=h1;show (if w.oneCell' then _ else _)=_
    rw[if_pos (CR.one h2)]
  ·exact⟨[.t b],[.v (.bool b)],rfl,⟨⟨_,rfl,rfl⟩,trivial⟩,h⟩
 | ag l=>obtain⟨cs,h1,rfl⟩:=hv;exact⟨l,cs,rfl,h1,h⟩
 | _=>cases h
theorem zC4 {l cs:List SC} {o n:Nat} (h1:l.length=n) (h2:o+n≤cs.length):zvA l o n cs=some (splice cs o l):=by unfold zvA;rw[if_pos ⟨h1,h2⟩]
theorem All2.splice {α β:Type} {Q:α→β→Prop} {l:List α} {r:List β} (h:All2 Q l r) {vs:List α} {ws:List β} (h':All2 Q vs ws) (o:Nat):All2 Q (Vm.splice l o vs) (Vm.splice r o ws):=by
 unfold Vm.splice;rw[h'.len];exact(((h.take o).append h').append (h.drop _))
theorem zy1 (hf:FR σ nb s t.fr) {K:List C→R} {k:List SC→Prop} (hk:∀ l cs,All2 (SCR σ nb) l cs→K l=some y→k cs) :
  ∀ {parts:List (Nat×Nat×Operand)} {l:List C} {cs:List SC},build s parts l K=some y→All2 (SCR σ nb) l cs→Vm.build t parts cs k
 | [],l,cs,h,hl=>hk l cs hl h
 | p::ps,l,cs,h,hl=>by
  refine zW (K:=fun v=>cellsOf v fun l'=>zc5 l' fun m=>cB (Nat.beq m p.2.1) (zyV p.1 l l' fun cs'=>build s ps cs' K) fail) h hf fun v sv _ hv h1=>?_
  obtain⟨l',cs',h2,h3,h4⟩:=ztb h1 hv;rw[h2];rw[zbA] at h4;obtain⟨h5,h6⟩:=zr h4;obtain⟨h7,h8⟩:=zs9 h6;have h9:=Nat.eq_of_beq_eq_true h5
  show onO (zvA cs' p.1 p.2.1 cs) _;rw[zC4 (by rw[←h3.len];exact h9) (by rw[←hl.len,←h9];exact h7)];show zan _ _
  rw[z8];exact zy1 hf hk h8 (hl.splice h3 _)
theorem zy2 {v:V} {sv:SV} {n:Nat} {K:V→R} (h:moved v n K=some y) (hv:VR σ nb v sv) {k:SV→Prop} (hk:∀ v sv,VR σ nb v sv→K v=some y→k sv):Vm.moved sv n k:=by
 obtain⟨x,rfl,h1⟩:=zcE h;split at h1
 ·rename_i j o;obtain⟨sc,h4,rfl⟩:=hv.cc (by simp);obtain⟨hj,rfl⟩:=h4;rw[fN_eq] at h1;exact hk (.c (.b j (o+n))) _ (.inl ⟨.bx j (o+n),⟨hj,rfl⟩,rfl⟩) h1
 ·rename_i a o;obtain⟨sc,h4,rfl⟩:=hv.cc (by simp);obtain⟨w,h4,rfl⟩:=h4;simp only[C.val,Option.map_eq_some_iff] at h4;obtain⟨e,h5,rfl⟩:=h4;rw[fN_eq] at h1;exact hk (.c (.p a (o+n))) _ (zaS (by simp[C.val,h5])) h1
 ·cases h1
theorem zcl {a:Nat} {K:O→R} (h:s.hget a K=some y):∃ o,s.rd a∧s.H.get a=some o∧K o=some y:=by
 obtain⟨nl,tl,L,bx,n,H,g⟩:=s;cases g with
 | none=>obtain⟨o,h1,h2⟩:=zgh (K:=K) h;exact⟨o,trivial,h1,h2⟩
 | some l=>
  have h':(Bool.rec fail (oV (H.get a) K) (mem a l):R)=some y:=h;cases hm:mem a l with
  | false=>rw[hm] at h';cases h'
  | true=>rw[hm] at h';obtain⟨o,h1,h2⟩:=zgh (K:=K) h';exact⟨o,hm,h1,h2⟩
theorem row_obj {M:Mem} {b:Nat} {E:TypeId} {l:List Value} {fz:Nat×Nat} {o n:Nat} (hb:M b=some (.cells l.toArray E fz)) (h:o+n≤l.length):M.row b o n=some ((l.drop o).take n):=by
 simp[Mem.row,hb,h]
theorem zLk {o:O} {K:List C→R} (h:o.cells K=some y) {M:Mem} {e:E} (ho:OR σ e o M):∃ l vs,All2 (CR σ) l vs∧K l=some y∧((l=[])∨∀ p n,p+n≤l.length→M.row e.addr p n=some ((vs.drop p).take n)):=by
 cases o with
 | row T l=>
  obtain⟨-, vs,h1,h2⟩:=ho;exact⟨l,vs,h1,h,.inr fun p n hp=>row_obj h2 (by rw[←h1.len];exact hp)⟩
 | ro T l=>
  obtain⟨-, vs,h1,h2⟩:=ho;exact⟨l,vs,h1,h,.inr fun p n hp=>row_obj h2 (by rw[←h1.len];exact hp)⟩
 | gr T z l=>
  obtain⟨vs,h1,⟨-, rfl, -⟩|⟨-, h2, -⟩⟩:=ho
  ·exact⟨[],vs,h1,h,.inl rfl⟩
  ·refine⟨l,vs,h1,h,.inr fun p n hp=>?_⟩;have hl:=h1.len
   rw[row_obj h2 (by rw[List.length_append];omega),List.drop_append_of_le_length (by omega),List.take_append_of_le_length (by rw[List.length_drop];omega)]
 | _=>cases h
theorem zxX {a o n:Nat} {K:List C→R} (h:row s a o n K=some y) (hq:QR σ nb s t):∃ l vs e,σ[a]? = some e∧l.length=n∧All2 (CR σ) l vs∧K l=some y∧(n=0∨t.M.row e.addr o n=some vs):=by
 obtain⟨ob,h1,h2,h3⟩:=zcl h;obtain⟨e,h4,h5⟩:=hq.h a ob h1 h2;obtain⟨l,vs,h6,h7,h8⟩:=zLk h3 h5;obtain⟨h9,h10⟩:=zpE h7;refine⟨(l.drop o).take n,(vs.drop o).take n,e,h4,by simp;omega,(h6.drop o).take n,h10,?_⟩;rcases h8 with rfl|h8
 ·left;simp at h9;omega
 ·exact .inr (h8 o n h9)
theorem All2.sc {l:List C} {vs:List Value} (h:All2 (CR σ) l vs) (nb:Nat):All2 (SCR σ nb) l (vs.map SC.v):=h.map (f:=SC.v) fun _ _ h=>CR.sc h
def QS (o:ROp) (q:S→(V→R)→R):Prop:=∀ {σ:List E} {nb:Nat} {s:S} {t:St} {y:Out} {K:V→R} {k:SV→Prop},QR σ nb s t→q s K=some y→(∀ v sv,VR σ nb v sv→K v=some y→k sv)→vq o t k
theorem zKk (x:Operand):QS (.mov x) (zHR x):=fun hq h hk=>zW h hq.fr fun v sv _ h1 h2=>hk v sv h1 h2
theorem zGH (c a b:Operand):QS (.pick c a b) (zD4 c a b):=fun {σ nb s t y K k} hq h hk=>by
 refine zW (K:=fun v=>asB v fun t=>cB t (ev s a K) (ev s b K)) h hq.fr fun v sv _ hv h1=>?_
 exact zEt h1 hv (fun h2=>zW h2 hq.fr fun v sv _ h1 h2=>hk v sv h1 h2) (fun h2=>zW h2 hq.fr fun v sv _ h1 h2=>hk v sv h1 h2)
theorem zC5 (z:List Value) (parts:List (Nat×Nat×Operand)):QS (.build z parts) (zBe z parts):=fun {σ nb s t y K k} hq h hk=>by
 obtain⟨l,h1,h2⟩:=zn3 σ h;show zan (z.map SC.v) _
 rw[z8];exact zy1 hq.fr (fun l cs hl h=>hk (.ag l) _ ⟨cs,hl,rfl⟩ h) h2 (h1.sc _)
theorem zGI (g:Bool) (n:Nat) (p:Operand):QS (.load g n p) (zD5 g n p):=fun {σ nb s t y K k} hq h hk=>by
 refine ztO h hq.fr hq.bx (fun j o T l cs _ _ hl h1=>?_) (fun a o e he h1=>?_)
 ·obtain⟨h2,h3⟩:=zpE h1;rw[zrd (by rw[←hl.len];exact h2)];exact ztP h3 ((hl.drop o).take n) hk
 ·obtain⟨h2,h3⟩:=zr h1;obtain⟨l,vs,e',h4,h5,h6,h7,h8⟩:=zxX h3 hq;rw[he] at h4;cases h4;rcases h8 with rfl|h8
  ·cases h2
  ·rw[h8];exact ztP h7 (h6.sc _) hk
theorem zC6 (x:Operand):QS (.nilck x) (zBf x):=fun {σ nb s t y K k} hq h hk=>zW h hq.fr fun _ _ _ hv h1=>zy2 h1 hv hk
theorem zC7 (off:Nat) (p:Operand):QS (.faddr off p) (zBg off p):=fun {σ nb s t y K k} hq h hk=>zW h hq.fr fun _ _ _ hv h1=>zy2 h1 hv hk
theorem zC8 (g:Bool) (off n:Nat) (x:Operand):QS (.field g off n x) (zBh g off n x):=fun {σ nb s t y K k} hq h hk=>by
 refine zW h hq.fr fun v sv _ hv h1=>?_
 obtain⟨l,cs,rfl,hl,h2⟩:=zxW h1 hv;obtain⟨h3,h4⟩:=zpE h2;show onO (Vm.takeC cs off n) _
 rw[zrd (by rw[←hl.len];exact h3)];exact ztP h4 ((hl.drop off).take n) hk
theorem zEu {i:Int} {n:Nat} {K:Nat→R} (h:inI i n K=some y):∃ j:Nat,i=(j:Int)∧j<n∧K j=some y:=by
 unfold inI at h;split at h
 ·rename_i j;obtain⟨h1,h2⟩:=zr h;exact⟨j,rfl,by simpa[Nat.blt_eq] using h1,h2⟩
 ·cases h
theorem zfs {i:Int} {K:Nat→R} (h:zkS i K=some y):∃ j:Nat,i=(j:Int)∧K j=some y:=by
 unfold zkS at h;split at h
 ·exact⟨_,rfl,h⟩
 ·cases h
theorem zBu {v:V} {sv:SV} {K:Nat→Nat→Nat→R} (h:zwk v K=some y) (hv:VR σ nb v sv):∃ a o n x c,sv = .slice x n c∧K a o n=some y∧∃ e,σ[a]? = some e∧(x=some ⟨e.addr,o,none⟩∨(n=0∧x=none)):=by
 obtain⟨x,rfl,h1⟩:=zcE h;split at h1
 ·rename_i a o n c;obtain⟨sc,h4,rfl⟩:=hv.cc (by simp);obtain⟨w,h4,rfl⟩:=h4;simp only[C.val,Option.map_eq_some_iff] at h4;obtain⟨e,h5,rfl⟩:=h4;exact⟨a,o,n,_,c,rfl,h1,e,h5,.inl rfl⟩
 ·rename_i a o d n;obtain⟨sc,h4,rfl⟩:=hv.cc (by simp);obtain⟨w,h4,rfl⟩:=h4;simp only[C.val,Option.bind_eq_some_iff] at h4;obtain⟨e,h5,h6⟩:=h4;split at h6
  ·split at h6
   ·rename_i hc;cases h6;obtain⟨rfl,rfl,rfl⟩:=hc;exact⟨a,0,0,_,0,rfl,h1,e,h5,.inr ⟨rfl,rfl⟩⟩
   ·cases h6
  ·split at h6
   ·cases h6;exact⟨a,o,n,_,_,rfl,h1,e,h5,.inl rfl⟩
   ·cases h6
 ·cases h1
theorem zC9 (size:Nat) (x i:Operand):QS (.iaddr size x i) (zBi size x i):=fun {σ nb s t y K k} hq h hk=>by
 refine zW h hq.fr fun v sv _ hv h1=>?_
 obtain⟨a,o,n,x,c,rfl,h2,e,he,hx⟩:=zBu h1 hv;refine zdc h2 hq.fr fun q m h3=>?_
 obtain⟨j,rfl,hj,h4⟩:=zEu h3;rcases hx with rfl|⟨rfl, -⟩
 ·refine⟨⟨by omega,by omega⟩,?_⟩;rw[fN_eq] at h4;show k (.ptr e.addr (o+(j:Int).toNat*size))
  rw[Int.toNat_natCast];exact hk (.c (.p a (o+j*size))) _ (zaS (by simp[C.val,he])) h4
 ·omega
theorem zBv (len size:Nat) (p i:Operand):QS (.iaddrA len size p i) (zyW len size p i):=fun {σ nb s t y K k} hq h hk=>by
 refine zdc h hq.fr fun q m h1=>?_
 obtain⟨j,rfl,hj,h2⟩:=zEu h1;refine⟨⟨by omega,by omega⟩,zW h2 hq.fr fun v sv _ hv h3=>?_⟩;rw[fN_eq] at h3;rw[Int.toNat_natCast];exact zy2 h3 hv hk
theorem zKl (x:Operand):QS (.not x) (zHS x):=fun {σ nb s t y K k} hq h hk=>by
 refine zW h hq.fr fun v sv _ hv h1=>?_
 obtain⟨c,rfl,h2⟩:=zcE h1;cases c with
 | t b=>
  replace h2:kB (!b) K=some y:=h2;rw[zpb] at h2;rcases hv with ⟨sc,h3,rfl⟩|⟨b',h3,rfl⟩
  ·obtain⟨v',h4,rfl⟩:=h3;cases h4;show lit b (k (.bool false)) (k (.bool true))
   cases b
   ·exact hk _ (.bool true) (zaS rfl) h2
   ·exact hk _ (.bool false) (zaS rfl) h2
  ·cases h3;exact hk _ _ zfk h2
 | _=>cases h2
theorem zmc {op:BinOp} {r:Bool} {K:V→R} (h:nilT op r K=some y) {k:SV→Prop} (hk:∀ v sv,VR σ nb v sv→K v=some y→k sv):Vm.nilT op r k:=by
 unfold nilT at h;split at h
 ·rw[zpb] at h;exact hk _ _ zfk h
 ·rw[zpb] at h;exact hk _ _ zfk h
 ·cases h
theorem zGJ (op:BinOp) (x y:Operand):QS (.bbin op x y) (zD9 op x y):=fun {σ nb s t z K k} hq h hk=>by
 refine zKj h hq.fr fun a h1=>zKj h1 hq.fr fun b h2=>?_
 unfold beqT at h2;split at h2
 ·rw[zpb] at h2;exact hk _ _ zfk h2
 ·rw[zpb] at h2;exact hk _ _ zfk h2
 ·cases h2
theorem zGK (op:BinOp) (x y:Operand):QS (.pnil op x y) (zEa op x y):=fun {σ nb s t z K k} hq h hk=>by
 refine zW h hq.fr fun v sv _ hv h1=>?_
 obtain⟨c,rfl,h2⟩:=zcE h1;split at h2
 ·rw[hv.val rfl (by simp)];refine zW h2 hq.fr fun v sv _ hv h3=>?_
  obtain⟨c,rfl,h4⟩:=zcE h3;split at h4
  ·rw[hv.val rfl (by simp)];exact zmc h4 hk
  ·obtain⟨sc,h5,rfl⟩:=hv.cc (by simp);obtain⟨w,h5,rfl⟩:=h5;simp only[C.val,Option.map_eq_some_iff] at h5;obtain⟨e,h6,rfl⟩:=h5;exact zmc h4 hk
  ·obtain⟨sc,h5,rfl⟩:=hv.cc (by simp);obtain⟨-, rfl⟩:=h5;exact zmc h4 hk
  ·cases h4
 ·cases h2
theorem zKm (x:Operand):QS (.len x) (zHT x):=fun {σ nb s t z K k} hq h hk=>by
 refine zW h hq.fr fun v sv _ hv h1=>?_
 obtain⟨c,rfl,h2⟩:=zcE h1;split at h2
 ·obtain⟨sc,h5,rfl⟩:=hv.cc (by simp);obtain⟨w,h5,rfl⟩:=h5;simp only[C.val,Option.map_eq_some_iff] at h5;obtain⟨e,h6,rfl⟩:=h5;exact hk _ _ (zaS rfl) h2
 ·obtain⟨sc,h5,rfl⟩:=hv.cc (by simp);obtain⟨w,h5,rfl⟩:=h5;simp only[C.val,Option.bind_eq_some_iff] at h5;obtain⟨e,h6,h7⟩:=h5;split at h7<;>split at h7
  ·rename_i hc;cases h7;obtain⟨rfl, -, -⟩:=hc;exact hk _ _ (zaS rfl) h2
  ·cases h7
  ·cases h7;exact hk _ _ (zaS rfl) h2
  ·cases h7
 ·rw[hv.val rfl (by simp)];exact hk _ _ (zaS rfl) h2
 ·obtain⟨sc,h5,rfl⟩:=hv.cc (by simp);obtain⟨w,h5,rfl⟩:=h5;simp only[C.val,Option.bind_eq_some_iff] at h5;obtain⟨e,h6,h7⟩:=h5;split at h7
  ·cases h7;exact hk _ _ (zaS (x := .n .i64 0) rfl) h2
  ·cases h7
 ·cases h2
theorem zGL (x:Operand):QS (.lenS x) (zEc x):=fun {σ nb s t z K k} hq h hk=>by
 refine zW h hq.fr fun v sv _ hv h1=>?_
 obtain⟨l,rfl,h2⟩:=znq h1 hv;rw[zbA] at h2;show k (.int .i64 (zab l).size)
 have e:(zab l).size=l.length:=by simp[zab,ByteArray.size]
 rw[e];exact hk _ _ (zaS rfl) h2
theorem zzB (x:Operand) (i:Nat):QS (.extract x i) (zwl x i):=fun {σ nb s t z K k} hq h hk=>by
 refine zW h hq.fr fun v sv _ hv h1=>?_
 obtain⟨l,vs,rfl,hl,h2⟩:=zMR h1 hv;obtain⟨w,h3,h4⟩:=zpD h2;obtain⟨u,h5,h6⟩:=hl.at_ h3;show onO (vs.toArray.toList[i]?) _
 rw[show vs.toArray.toList=vs from rfl,h5];exact hk _ _ (ztN h6) h4
end
end Go.Vm.Rn
