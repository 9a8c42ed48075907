/- Part of this proof;laid by program. -/
import Derived.Test.YtpnhjkiligohnaaGreatDoorJ6
set_option linter.unusedVariables false
set_option linter.unusedSimpArgs false
namespace Go.Vm
theorem brn {x:Bool} {A B:Prop} (h:x=true→A) (h':x=false→B):Brn x A B:=⟨h,h'⟩
theorem brn_t {x:Bool} {A B:Prop} (hx:x=true) (h:A):Brn x A B:=⟨fun _=>h,fun e=>absurd (hx.symm.trans e) (by simp)⟩
theorem brn_f {x:Bool} {A B:Prop} (hx:x=false) (h:B):Brn x A B:=⟨fun e=>absurd (hx.symm.trans e) (by simp),fun _=>h⟩
theorem ob {p A:Prop} (h:p) (h':A):Ob p A:=⟨h,h'⟩
theorem obr {k:IntKind} {r:Int} {K:SV→Prop} (h:inR k r) (h':K (.int k r)):ObR k r K:=⟨by rw[show k.wrap r=r from h];exact h'⟩
theorem grow_same {X M:Mem} {A:Mem→Prop} (h:X.le M) (h':A X):Grow X M A:=⟨X,fun _ _ h=>h,h,h'⟩
theorem on {α:Type} {x:Option α} {l:α} {k:α→Prop} (h:x=some l) (h':k l):onO x k:=by subst h;exact h'
theorem atp {a:Option Addr} {b o:Nat} {k:Nat→Nat→Prop} (h:a=some ⟨b,o,none⟩) (h':k b o):atO a k:=by subst h;exact h'
theorem CallsM.mono {P:Program} {f:Nat} {args:List Value} {M:Mem} {R R':Value→Mem→Prop} (h:CallsM P f args M R) (hr:∀ v M',R v M'→R' v M'):CallsM P f args M R':=
 ⟨h.1,fun F w h1 h2 h3=>(h.2 F w h1 h2 h3).mono fun _ _ ⟨v,M',he,hk,hx⟩=>⟨v,M',he,hr v M' hk,hx⟩⟩
theorem zNV {σ:Type} {body:(Exit→St→Prop)→St→Prop} {Q:Exit→St→Prop} {s:St} (st:σ→St) (inv:σ→Prop) (μ:σ→Nat) (x0:σ) (h0:inv x0) (hs:(st x0).sub s)
  (h:∀ x,inv x→body (ztI Q fun s'=>∃ y,inv y∧μ y<μ x∧(st y).sub s') (st x)):zav body Q s:=
 ⟨fun m t=>∃ x,inv x∧μ x=m∧t=st x,⟨_,_,⟨x0,h0,rfl,rfl⟩,hs⟩,fun m t ⟨x,hx,hm,ht⟩=>by
  subst hm;subst ht
  have e:(fun s'=>∃ m' t',m'<μ x∧(∃ y,inv y∧μ y=m'∧t'=st y)∧t'.sub s')=fun s'=>∃ y,inv y∧μ y<μ x∧(st y).sub s':=by
   funext s';apply propext;constructor
   ·rintro ⟨m',t',h1,⟨y,h2,rfl,rfl⟩,h3⟩;exact⟨y,h2,h1,h3⟩
   ·rintro ⟨y,h1,h2,h3⟩;exact⟨_,_,h2,⟨y,h1,rfl,rfl⟩,h3⟩
  rw[e]
  exact h x hx⟩
theorem loop {σ:Type} {body:(Exit→St→Prop)→St→Prop} {Q:Exit→St→Prop} {s:St} (st:σ→St) (inv:σ→Prop) (μ:σ→Nat) (x0:σ) (h0:inv x0) (hs:(st x0).sub s)
  (h:∀ x,inv x→body (ztI Q fun s'=>∃ y,inv y∧μ y<μ x∧(st y).sub s') (st x)):zay body Q s := .inl (zNV st inv μ x0 h0 hs h)
theorem zaL {σ:Type} {body:(Exit→St→Prop)→St→Prop} {Q:Exit→St→Prop} {fr0:List (Nat×SV)} {bx0:List BE} {M0:Mem} (keys:List Nat) (fr:σ→List (Nat×SV)) (bx:σ→List BE) (mem:σ→Mem) (inv:σ→Prop) (μ:σ→Nat) (x0:σ) (h0:inv x0)
  (hs:St.sub ⟨fr x0++zhh keys fr0,bx x0,mem x0⟩ ⟨fr0,bx0,M0⟩)
  (h:∀ x,inv x→body (ztI Q fun s'=>∃ y,inv y∧μ y<μ x∧St.sub ⟨fr y++zhh keys fr0,bx y,mem y⟩ s') ⟨fr x++zhh keys fr0,bx x,mem x⟩):zay body Q ⟨fr0,bx0,M0⟩:=
 loop (fun x=>⟨fr x++zhh keys fr0,bx x,mem x⟩) inv μ x0 h0 hs h
theorem ztL {σ:Type} {body:(Exit→St→Prop)→St→Prop} {Q:Exit→St→Prop} {fr0:List (Nat×SV)} {bx0:List BE} {M0:Mem} (keys:List Nat) (fr:σ→List (Nat×SV)) (inv:σ→Prop) (μ:σ→Nat) (x0:σ) (h0:inv x0)
  (hs:St.sub ⟨fr x0++zhh keys fr0,bx0,M0⟩ ⟨fr0,bx0,M0⟩)
  (h:∀ x,inv x→body (ztI Q fun s'=>∃ y,inv y∧μ y<μ x∧St.sub ⟨fr y++zhh keys fr0,bx0,M0⟩ s') ⟨fr x++zhh keys fr0,bx0,M0⟩):zay body Q ⟨fr0,bx0,M0⟩:=
 loop (fun x=>⟨fr x++zhh keys fr0,bx0,M0⟩) inv μ x0 h0 hs h
theorem app {E:TypeId} {size bytes:Nat} {a:Option Addr} {n c m:Nat} {news:List Value} {M:Mem} {k:Option Addr→Nat→Mem→Prop} (M0:Mem) (L:List Value) (hown:Own M0 E size a n c L M)
  (h1:(n+m)*bytes≤140737488355328) (h2:n+m≤maxLen) (h3:∀ u∈news,u.oneCell'=true) (hk:∀ a' c' M',Own M0 E size a' (n+m) c' (L++news) M'→k a' c' M'):zaU E size bytes a n c m news M k:=
 ⟨h1,h2,h3,.inl ⟨M0,L,hown,fun a' c' M' _ ho=>hk a' c' M' ho⟩⟩
theorem zkt {M:Mem} {size:Nat} {a:Option Addr} {n:Nat} {k:List Value→Prop} {vs:List Value} (h:SrcOk M size a n vs) (hk:k vs):zbF M size a n k:=⟨vs,h,hk⟩
theorem new {M:Mem} {k:Nat→Prop} (h:∀ b,M b=none→k b):New M k:=h
theorem Mem.le_setCells {M:Mem} {b:Nat} {E:TypeId} {l:List Value} (h:M b=none):M.le (M.setCells b E l):=fun c o hc=>by
 have hne:c≠b:=fun e=>by subst e;rw[h] at hc;cases hc
 simpa[Mem.setCells,Mem.upd_ne _ _ hne] using hc
theorem Own.none (M:Mem) (E:TypeId) (size:Nat):Own M E size none 0 0 [] M:=⟨by simp,Nat.le_refl _,.inl ⟨rfl,rfl,rfl⟩⟩
theorem Own.lit {M:Mem} {b:Nat} (h:M b=Option.none) (E:TypeId) (size n:Nat) (L:List Value) (hl:L.length=n*size):Own M E size (some ⟨b,0,Option.none⟩) n n L (M.setCells b E L):=
 ⟨hl,Nat.le_refl _,.inr ⟨b,L,rfl,h,rfl,hl,by rw[List.take_of_length_le (by omega)]⟩⟩
theorem Own.base {M0:Mem} {E:TypeId} {size:Nat} {a:Option Addr} {n c:Nat} {L:List Value} {M:Mem} (h:Own M0 E size a n c L M):M0.le M:=by
 obtain⟨_,_,⟨_,_,rfl⟩|⟨b,cs,_,hb,rfl,_,_⟩⟩:=h
 ·exact Mem.le_refl _
 ·exact Mem.le_setCells hb
theorem Own.src {M0:Mem} {E:TypeId} {size:Nat} {a:Option Addr} {n c:Nat} {L:List Value} {M:Mem} (h:Own M0 E size a n c L M):SrcOk M size a n L:=by
 obtain⟨hl,hc,⟨rfl,rfl,rfl⟩|⟨b,cs,rfl,hb,rfl,hcl,ht⟩⟩:=h
 ·refine⟨hl,.inl ?_⟩;have:n=0:=by omega
  subst this;simpa using hl
 ·refine⟨hl,.inr ⟨b,0,rfl,?_⟩⟩;have:n*size≤c*size:=Nat.mul_le_mul_right _ hc
  simp only[Mem.row,Mem.setCells,Mem.upd_same];rw[if_pos (by simp;omega)];simp[ht]
theorem Mem.row_le {A M:Mem} (h:A.le M) {b o n:Nat} {vs:List Value} (hr:A.row b o n=some vs):M.row b o n=some vs:=by
 unfold Mem.row at hr ⊢;cases hA:A b with
 | none=>rw[hA] at hr;cases hr
 | some x=>rw[hA] at hr;rw[h b x hA];exact hr
theorem SrcOk.le {A M:Mem} (h:A.le M) {size:Nat} {a:Option Addr} {n:Nat} {vs:List Value} (hs:SrcOk A size a n vs):SrcOk M size a n vs:=by
 obtain⟨hl,h1|⟨b,o,ha,h2⟩⟩:=hs
 ·exact⟨hl,.inl h1⟩
 ·exact⟨hl,.inr ⟨b,o,ha,Mem.row_le h h2⟩⟩
theorem SrcOk.elem {M:Mem} {s:Nat} {a:Option Addr} {n:Nat} {vs:List Value} (h:SrcOk M s a n vs) {j:Nat} (hj:j<n) (hs:0<s) :
  ∃ b o,a=some ⟨b,o,Option.none⟩∧∀ p m,p+m≤s→M.row b (o+j*s+p) m=some ((vs.drop (j*s+p)).take m):=by
 obtain⟨hl,h⟩:=h;have hle:(j+1)*s≤n*s:=Nat.mul_le_mul_right _ hj
 rw[Nat.succ_mul] at hle;rcases h with rfl|⟨b,o,rfl,hr⟩
 ·simp at hl;omega
 ·refine⟨b,o,rfl,fun p m hpm=>?_⟩;unfold Mem.row at hr ⊢;split at hr
  ·rename_i c e fz hM;split at hr
   ·simp only[Option.some.injEq] at hr;rw[if_pos (by omega),←hr];congr 1;rw[List.drop_take,List.drop_drop,List.take_take];rw[Nat.min_eq_left (by omega)];congr 2;omega
   ·cases hr
  ·cases hr
theorem SrcOk.get {M:Mem} {a:Option Addr} {n:Nat} {vs:List Value} (h:SrcOk M 1 a n vs) {j:Nat} {v:Value} (hv:vs[j]? = some v):∃ b o,a=some ⟨b,o,Option.none⟩∧M.row b (o+j*1) 1=some [v]:=by
 have hl:=h.1;have hj:=(List.getElem?_eq_some_iff.1 hv).1
 obtain⟨b,o,h1,h2⟩:=h.elem (j:=j) (by omega) (by omega);refine⟨b,o,h1,?_⟩;have:=h2 0 1 (by omega)
 simp only[Nat.add_zero] at this;rw[List.getElem?_eq_getElem hj] at hv;have hv:=Option.some.inj hv
 rw[this,Nat.mul_one,List.drop_eq_getElem_cons hj,hv];simp
theorem zm {n:Int} (h : -9223372036854775808≤n∧n≤9223372036854775807):inR .i64 n:=by
 unfold inR;rw[IntKind.wrap_i64];omega
end Go.Vm
namespace Go.Vm
theorem Mem.le_upd {M:Mem} {b:Nat} {x:Obj} (h:M b=none):M.le (M.upd b x):=fun c o hc=>by
 have hne:c≠b:=fun e=>by subst e;rw[h] at hc;cases hc
 simpa[Mem.upd,hne] using hc
def Mem.has (M:Mem) (b:Nat) (E:TypeId) (l:List Value):Prop:=M b=some (.cells l.toArray E (0,0))
theorem Mem.has.cells {M:Mem} {b:Nat} {E:TypeId} {l:List Value} (h:M.has b E l):M.cells b=some (E,l):=by unfold Mem.has at h;simp[Mem.cells,h]
theorem Mem.has.row {M:Mem} {b:Nat} {E:TypeId} {l:List Value} (h:M.has b E l) {o n:Nat} (hn:o+n≤l.length):M.row b o n=some ((l.drop o).take n):=by unfold Mem.has at h;simp[Mem.row,h,hn]
theorem Mem.has.le {A M:Mem} (hle:A.le M) {b:Nat} {E:TypeId} {l:List Value} (h:A.has b E l):M.has b E l:=hle _ _ h
theorem Mem.has_setCells {M:Mem} {b:Nat} {E:TypeId} {l:List Value}:(M.setCells b E l).has b E l:=by simp[Mem.has,Mem.setCells,Mem.upd]
def NewSl (M:Mem) (E:TypeId) (size:Nat) (a:Option Addr) (n c:Nat) (L:List Value) (M':Mem):Prop:=∃ M0,M.le M0∧Own M0 E size a n c L M'
theorem Own.new {M:Mem} {E:TypeId} {size:Nat} {a:Option Addr} {n c:Nat} {L:List Value} {M':Mem} (h:Own M E size a n c L M'):NewSl M E size a n c L M':=⟨M,Mem.le_refl _,h⟩
theorem NewSl.none (M:Mem) (E:TypeId) (size:Nat):NewSl M E size none 0 0 [] M:=(Own.none M E size).new
theorem NewSl.lit {M:Mem} {b:Nat} (h:M b=Option.none) (E:TypeId) (size n:Nat) (L:List Value) (hl:L.length=n*size):NewSl M E size (some ⟨b,0,Option.none⟩) n n L (M.setCells b E L):=(Own.lit h E size n L hl).new
theorem NewSl.le {M:Mem} {E:TypeId} {size:Nat} {a:Option Addr} {n c:Nat} {L:List Value} {M':Mem} (h:NewSl M E size a n c L M'):M.le M':=by
 obtain⟨M0,h0,h1⟩:=h;exact Mem.le_trans h0 h1.base
theorem NewSl.src {M:Mem} {E:TypeId} {size:Nat} {a:Option Addr} {n c:Nat} {L:List Value} {M':Mem} (h:NewSl M E size a n c L M'):SrcOk M' size a n L:=by
 obtain⟨M0,h0,h1⟩:=h;exact h1.src
theorem NewSl.mono {A M:Mem} {E:TypeId} {size:Nat} {a:Option Addr} {n c:Nat} {L:List Value} {M':Mem} (h:NewSl M E size a n c L M') (hA:A.le M):NewSl A E size a n c L M':=by
 obtain⟨M0,h0,h1⟩:=h;exact⟨M0,Mem.le_trans hA h0,h1⟩
theorem zOH {E:TypeId} {size bytes:Nat} {a:Option Addr} {n c m:Nat} {news:List Value} {M:Mem} {k:Option Addr→Nat→Mem→Prop} (M0:Mem) (L:List Value) (hown:NewSl M0 E size a n c L M)
  (h1:(n+m)*bytes≤140737488355328) (h2:n+m≤maxLen) (h3:∀ u∈news,u.oneCell'=true) (hk:∀ a' c' M',NewSl M0 E size a' (n+m) c' (L++news) M'→k a' c' M'):zaU E size bytes a n c m news M k:=by
 obtain⟨M1,h0,h⟩:=hown;exact app M1 L h h1 h2 h3 fun a' c' M' ho=>hk a' c' M' ⟨M1,h0,ho⟩
theorem SrcOk.nil (M:Mem) (size:Nat):SrcOk M size none 0 []:=⟨by simp,.inl rfl⟩
theorem SrcOk.len {M:Mem} {size:Nat} {a:Option Addr} {n:Nat} {l:List Value} (h:SrcOk M size a n l):l.length=n*size:=h.1
def Mem.keep (S:Nat→Prop) (M M':Mem):Prop:=∀ b o,¬S b→M b=some o→M' b=some o
theorem Mem.keep_refl (S:Nat→Prop) (M:Mem):Mem.keep S M M:=fun _ _ _ h=>h
theorem Mem.keep_of_le {S:Nat→Prop} {M M':Mem} (h:M.le M'):Mem.keep S M M':=fun b o _ hb=>h b o hb
theorem Mem.keep_trans {S:Nat→Prop} {A B C:Mem} (h:Mem.keep S A B) (h':Mem.keep S B C):Mem.keep S A C:=fun b o hn hb=>h' b o hn (h b o hn hb)
theorem Mem.keep_upd {S:Nat→Prop} (M:Mem) {b:Nat} (x:Obj) (hb:S b):Mem.keep S M (M.upd b x):=fun c o hn hc=>by
 have hne:c≠b:=fun e=>by subst e;exact hn hb
 simpa[Mem.upd,hne] using hc
theorem Mem.keep.le {S:Nat→Prop} {M0 M M':Mem} (h:Mem.keep S M M') (h0:M0.le M) (hS:∀ b,S b→M0 b=none):M0.le M':=fun b o hb=>h b o (fun hs=>by rw[hS b hs] at hb;cases hb) (h0 b o hb)
end Go.Vm
namespace Go.Vm
theorem SrcOk.at {α:Type} {M:Mem} {a:Option Addr} {n:Nat} {l:List α} {f:α→Value} (h:SrcOk M 1 a n (l.map f)) {i:Nat} (hi:i<n) :
  ∃ (hl:i<l.length) (b o:Nat),a=some ⟨b,o,Option.none⟩∧M.row b (o+i*1) 1=some [f l[i]]:=by
 have hl:l.length=n:=by simpa using h.1
 obtain⟨b,o,h1,h2⟩:=h.get (j:=i) (v:=f (l[i]'(by omega))) (by simp[List.getElem?_eq_getElem (show i<l.length by omega)]);exact⟨by omega,b,o,h1,h2⟩
theorem SrcOk.maplen {α:Type} {M:Mem} {a:Option Addr} {n:Nat} {l:List α} {f:α→Value} (h:SrcOk M 1 a n (l.map f)):l.length=n:=by simpa using h.1
end Go.Vm
namespace Go.Vm
theorem newSl_iff {M:Mem} {E:TypeId} {s:Nat} {a:Option Addr} {n c:Nat} {L:List Value} {M':Mem} :
  NewSl M E s a n c L M'↔M.le M'∧L.length=n*s∧n≤c∧((a=Option.none∧c=0)∨∃ b cs,a=some ⟨b,0,Option.none⟩∧M b=Option.none∧M'.has b E cs∧cs.length=c*s∧cs.take (n*s)=L):=by
 constructor
 ·intro h;refine⟨h.le,?_⟩;obtain⟨M0,h0,h1,h2,h3⟩:=h;refine⟨h1,h2,?_⟩;rcases h3 with ⟨ha,hc,_⟩|⟨b,cs,ha,hb,rfl,hl,ht⟩
  ·exact .inl ⟨ha,hc⟩
  ·refine .inr ⟨b,cs,ha,?_,Mem.has_setCells,hl,ht⟩;cases hx:M b with
   | none=>rfl
   | some x=>rw[h0 b x hx] at hb;cases hb
 ·rintro ⟨hle,h1,h2,⟨ha,hc⟩|⟨b,cs,ha,hb,hh,hl,ht⟩⟩
  ·exact⟨M',hle,h1,h2,.inl ⟨ha,hc,rfl⟩⟩
  ·refine⟨fun x=>if x=b then none else M' x,fun x o hx=>?_,h1,h2,.inr ⟨b,cs,ha,by simp,?_,hl,ht⟩⟩
   ·have hne:x≠b:=fun e=>by subst e;rw[hb] at hx;cases hx
    simp only[if_neg hne];exact hle x o hx
   ·funext x;simp only[Mem.setCells,Mem.upd];split
    ·rename_i e;subst e;exact hh
    ·rfl
theorem NewSl.up {M:Mem} {E:TypeId} {s:Nat} {a:Option Addr} {n c:Nat} {L:List Value} {M1 M2:Mem} (h:NewSl M E s a n c L M1) (hle:M1.le M2):NewSl M E s a n c L M2:=by
 rw[newSl_iff] at h ⊢;obtain⟨h0,h1,h2,h3⟩:=h;exact⟨Mem.le_trans h0 hle,h1,h2,h3.imp id fun ⟨b,cs,ha,hb,hh,hr⟩=>⟨b,cs,ha,hb,hle _ _ hh,hr⟩⟩
theorem NewSl.keep {M:Mem} {E:TypeId} {s:Nat} {a:Option Addr} {n c:Nat} {L:List Value} {M1 M2:Mem} {S:Nat→Prop} (h:NewSl M E s a n c L M1) (hk:Mem.keep S M1 M2) (hS:∀ b,S b→M b=Option.none) (ha:∀ p,a=some p→¬S p.block):NewSl M E s a n c L M2:=by
 rw[newSl_iff] at h ⊢;obtain⟨h0,h1,h2,h3⟩:=h;exact⟨hk.le h0 hS,h1,h2,h3.imp id fun ⟨b,cs,hab,hb,hh,hr⟩=>⟨b,cs,hab,hb,hk _ _ (ha _ hab) hh,hr⟩⟩
end Go.Vm
namespace Go.Vm
def Mem.empty:Mem:=fun _=>none
theorem Mem.empty_le (M:Mem):Mem.empty.le M:=fun _ _ h=>by cases h
end Go.Vm
namespace Go.Vm
theorem Mem.has.c1 {M:Mem} {b:Nat} {E:TypeId} {l:List Value} (h:M.has b E l) {o:Nat} {v:Value} (hv:l[o]? = some v):M.row b o 1=some [v]:=by
 have hl:=(List.getElem?_eq_some_iff.1 hv).1;rw[h.row (by omega),List.drop_eq_getElem_cons hl];have:=(List.getElem?_eq_some_iff.1 hv).2
 simp[this]
end Go.Vm
namespace Go.Vm
theorem NewSl.block {M:Mem} {E:TypeId} {s:Nat} {a:Option Addr} {n c:Nat} {L:List Value} {M':Mem} (h:NewSl M E s a n c L M') {q:Addr} (ha:a=some q):M q.block=Option.none∧∃ cs,M'.has q.block E cs:=by
 rw[newSl_iff] at h;obtain⟨_,_,_,⟨h3,_⟩|⟨b,cs,hab,hb,hh,_⟩⟩:=h
 ·rw[h3] at ha;cases ha
 ·rw[hab] at ha;cases ha;exact⟨hb,cs,hh⟩
theorem Mem.has.inj {M:Mem} {b:Nat} {E E':TypeId} {l l':List Value} (h:M.has b E l) (h':M.has b E' l'):E=E'∧l=l':=by
 unfold Mem.has at h h';rw[h] at h';simp at h';exact⟨h'.2,h'.1⟩
def Wr (M:Mem) (E:TypeId) (s:Nat) (a:Option Addr) (n c:Nat) (L:List Value):Prop:=
 L.length=n*s∧n≤c∧((a=Option.none∧c=0)∨∃ b cs,a=some ⟨b,0,Option.none⟩∧M.has b E cs∧cs.length=c*s∧cs.take (n*s)=L)
theorem NewSl.wr {M:Mem} {E:TypeId} {s:Nat} {a:Option Addr} {n c:Nat} {L:List Value} {M':Mem} (h:NewSl M E s a n c L M'):Wr M' E s a n c L:=by
 rw[newSl_iff] at h;obtain⟨_,h1,h2,h3⟩:=h;exact⟨h1,h2,h3.imp id fun ⟨b,cs,ha,_,hr⟩=>⟨b,cs,ha,hr⟩⟩
theorem Wr.mono {M M':Mem} {E:TypeId} {s:Nat} {a:Option Addr} {n c:Nat} {L:List Value} (h:Wr M E s a n c L) (hk:∀ p o,a=some p→M p.block=some o→M' p.block=some o):Wr M' E s a n c L:=by
 obtain⟨h1,h2,h3⟩:=h;exact⟨h1,h2,h3.imp id fun ⟨b,cs,ha,hh,hr⟩=>⟨b,cs,ha,hk _ _ ha hh,hr⟩⟩
theorem Wr.le {M M':Mem} {E:TypeId} {s:Nat} {a:Option Addr} {n c:Nat} {L:List Value} (h:Wr M E s a n c L) (hle:M.le M'):Wr M' E s a n c L:=h.mono fun _ _ _=>hle _ _
def Elems {α:Type} (M:Mem) (s:Nat) (a:Option Addr) (n:Nat) (R:List Value→α→Prop) (l:List α):Prop:=
 ∃ css:List (List Value),SrcOk M s a n css.flatten∧css.length=n∧l.length=n∧(∀ cs∈css,cs.length=s)∧∀ (i:Nat) cs x,css[i]? = some cs→l[i]? = some x→R cs x
theorem zrn {α:Type} {s:Nat}:∀ {css:List (List α)} (_:∀ cs∈css,cs.length=s) {i:Nat} {cs:List α} (_:css[i]? = some cs),(css.flatten.drop (i*s)).take s=cs
 | [],_,i,cs,hi=>by simp at hi
 | c::r,h,0,cs,hi=>by
  simp at hi;subst hi;have:c.length=s:=h c (by simp)
  simp[←this]
 | c::r,h,i+1,cs,hi=>by
  have hc:c.length=s:=h c (by simp);simp only[List.flatten_cons];rw[Nat.succ_mul,Nat.add_comm,←List.drop_drop,show (c++r.flatten).drop s=r.flatten by rw[←hc];simp];exact zrn (fun cs hcs=>h cs (List.mem_cons_of_mem _ hcs)) (by simpa using hi)
theorem Elems.nil {α:Type} (M:Mem) (s:Nat) (R:List Value→α→Prop):Elems M s Option.none 0 R []:=⟨[],SrcOk.nil M s,rfl,rfl,by simp,by simp⟩
def NewEls {α:Type} (M:Mem) (E:TypeId) (s:Nat) (a:Option Addr) (n c:Nat) (R:List Value→α→Prop) (l:List α) (M':Mem):Prop:=
 ∃ css:List (List Value),NewSl M E s a n c css.flatten M'∧css.length=n∧l.length=n∧(∀ cs∈css,cs.length=s)∧∀ (i:Nat) cs x,css[i]? = some cs→l[i]? = some x→R cs x
theorem NewEls.le {α:Type} {M:Mem} {E:TypeId} {s:Nat} {a:Option Addr} {n c:Nat} {R:List Value→α→Prop} {l:List α} {M':Mem} (h:NewEls M E s a n c R l M'):M.le M':=by
 obtain⟨css,h1,hr⟩:=h;exact h1.le
theorem NewEls.block {α:Type} {M:Mem} {E:TypeId} {s:Nat} {a:Option Addr} {n c:Nat} {R:List Value→α→Prop} {l:List α} {M':Mem} (h:NewEls M E s a n c R l M') {q:Addr} (ha:a=some q):M q.block=Option.none∧∃ cs,M'.has q.block E cs:=by
 obtain⟨css,h1,_⟩:=h;exact h1.block ha
theorem NewEls.nil {α:Type} (M:Mem) (E:TypeId) (s:Nat) (R:List Value→α→Prop):NewEls M E s Option.none 0 0 R [] M:=⟨[],NewSl.none M E s,rfl,rfl,by simp,by simp⟩
theorem NewEls.imp {α:Type} {M:Mem} {E:TypeId} {s:Nat} {a:Option Addr} {n c:Nat} {R R':List Value→α→Prop} {l:List α} {M':Mem} (h:NewEls M E s a n c R l M') (hR:∀ cs x,x∈l→R cs x→R' cs x):NewEls M E s a n c R' l M':=by
 obtain⟨css,h1,h2,h3,h4,h5⟩:=h;exact⟨css,h1,h2,h3,h4,fun i cs x hi hx=>hR _ _ (List.mem_of_getElem? hx) (h5 i cs x hi hx)⟩
theorem NewEls.up {α:Type} {M:Mem} {E:TypeId} {s:Nat} {a:Option Addr} {n c:Nat} {R:List Value→α→Prop} {l:List α} {M1 M2:Mem} (h:NewEls M E s a n c R l M1) (hle:M1.le M2):NewEls M E s a n c R l M2:=by
 obtain⟨css,h1,hr⟩:=h;exact⟨css,h1.up hle,hr⟩
theorem NewEls.keep {α:Type} {M:Mem} {E:TypeId} {s:Nat} {a:Option Addr} {n c:Nat} {R:List Value→α→Prop} {l:List α} {M1 M2:Mem} {S:Nat→Prop} (h:NewEls M E s a n c R l M1) (hk:Mem.keep S M1 M2) (hS:∀ b,S b→M b=Option.none) (ha:∀ p,a=some p→¬S p.block):NewEls M E s a n c R l M2:=by
 obtain⟨css,h1,hr⟩:=h;exact⟨css,h1.keep hk hS ha,hr⟩
theorem NewEls.mono {α:Type} {A M:Mem} {E:TypeId} {s:Nat} {a:Option Addr} {n c:Nat} {R:List Value→α→Prop} {l:List α} {M':Mem} (h:NewEls M E s a n c R l M') (hA:A.le M):NewEls A E s a n c R l M':=by
 obtain⟨css,h1,hr⟩:=h;exact⟨css,h1.mono hA,hr⟩
def blk (a:Option Addr):Nat→Prop:=fun x=>∃ q,a=some q∧q.block=x
theorem appK {E:TypeId} {size bytes:Nat} {a:Option Addr} {n c m:Nat} {news:List Value} {M:Mem} {k:Option Addr→Nat→Mem→Prop} (M0:Mem) (L:List Value) (hown:NewSl M0 E size a n c L M)
  (h1:(n+m)*bytes≤140737488355328) (h2:n+m≤maxLen) (h3:∀ u∈news,u.oneCell'=true) (hk:∀ a' c' M',NewSl M0 E size a' (n+m) c' (L++news) M'→Mem.keep (blk a) M M'→k a' c' M'):zaU E size bytes a n c m news M k:=by
 rw[newSl_iff] at hown;obtain⟨h0,h4,h5,⟨ha,hc⟩|⟨b,cs,ha,hb,hh,hl,ht⟩⟩:=hown
 ·refine app M L ⟨h4,h5,.inl ⟨ha,hc,rfl⟩⟩ h1 h2 h3 fun a' c' M' ho=>hk a' c' M' ⟨M,h0,ho⟩ (Mem.keep_of_le ho.base)
 ·refine app (fun x=>if x=b then Option.none else M x) L ⟨h4,h5,.inr ⟨b,cs,ha,by simp,?_,hl,ht⟩⟩ h1 h2 h3 fun a' c' M' ho=>hk a' c' M' ⟨_,?_,ho⟩ ?_
  ·funext x;simp only[Mem.setCells,Mem.upd];split
   ·rename_i e;subst e;exact hh
   ·rfl
  ·intro x o hx;have hne:x≠b:=fun e=>by subst e;rw[hb] at hx;cases hx
   simp only[if_neg hne];exact h0 x o hx
  ·intro x o hn hx;have hne:x≠b:=fun e=>hn ⟨_,ha,e.symm⟩
   exact ho.base x o (by simp only[if_neg hne];exact hx)
theorem zOI {α:Type} {E:TypeId} {s bytes:Nat} {a:Option Addr} {n c:Nat} {news:List Value} {M:Mem} {k:Option Addr→Nat→Mem→Prop} {R:List Value→α→Prop} {l:List α} (M0:Mem) (hown:NewEls M0 E s a n c R l M) (x:α) (hx:R news x)
  (hl:news.length=s) (h1:(n+1)*bytes≤140737488355328) (h2:n+1≤maxLen) (h3:∀ u∈news,u.oneCell'=true) (hk:∀ a' c' M',NewEls M0 E s a' (n+1) c' R (l++[x]) M'→Mem.keep (blk a) M M'→k a' c' M'):zaU E s bytes a n c 1 news M k:=by
 obtain⟨css,h0,h4,h5,h6,h7⟩:=hown;refine appK M0 _ h0 h1 h2 h3 fun a' c' M' hn hkp=>hk a' c' M' ⟨css++[news],by simpa using hn,by simp[h4],by simp[h5],?_,?_⟩ hkp
 ·intro cs hcs;rcases List.mem_append.1 hcs with h|h
  ·exact h6 cs h
  ·simp at h;rw[h,hl]
 ·intro i cs y hi hy;by_cases hlt:i<css.length
  ·rw[List.getElem?_append_left hlt] at hi;rw[List.getElem?_append_left (by omega)] at hy;exact h7 i cs y hi hy
  ·rw[List.getElem?_append_right (by omega)] at hi;rw[List.getElem?_append_right (by omega)] at hy
   have e:i - css.length=0:=by
    have:=(List.getElem?_eq_some_iff.1 hi).1;simp at this;omega
   rw[e] at hi;rw[show i - l.length=0 by omega] at hy;simp at hi hy;rw[←hi,←hy];exact hx
end Go.Vm
namespace Go.Vm
open Classical in
noncomputable def Mem.minus (M:Mem) (S:Nat→Prop):Mem:=fun x=>if S x then none else M x
theorem Mem.minus_le (M:Mem) (S:Nat→Prop):(M.minus S).le M:=fun b o h=>by unfold Mem.minus at h;split at h;cases h;exact h
theorem Mem.keep_minus {M M':Mem} {S:Nat→Prop}:Mem.keep S M M'↔(M.minus S).le M':=by
 constructor
 ·intro h b o hb;unfold Mem.minus at hb;split at hb
  ·cases hb
  ·exact h b o ‹_› hb
 ·intro h b o hn hb;exact h b o (by unfold Mem.minus;rw[if_neg hn];exact hb)
theorem Mem.le_minus {M0 M:Mem} {S:Nat→Prop} (h:M0.le M) (hS:∀ b,S b→M0 b=none):M0.le (M.minus S):=fun b o hb=>by
 unfold Mem.minus;rw[if_neg (fun hs=>by rw[hS b hs] at hb;cases hb)];exact h b o hb
theorem Mem.minus_in {M:Mem} {S:Nat→Prop} {b:Nat} (h:S b):M.minus S b=none:=by unfold Mem.minus;rw[if_pos h]
end Go.Vm
namespace Go.Vm
theorem Wr.block {M:Mem} {E:TypeId} {s:Nat} {a:Option Addr} {n c:Nat} {L:List Value} (h:Wr M E s a n c L) {q:Addr} (ha:a=some q):∃ cs,M.has q.block E cs:=by
 obtain⟨_,_,⟨h3,_⟩|⟨b,cs,hab,hh,_⟩⟩:=h
 ·rw[h3] at ha;cases ha
 ·rw[hab] at ha;cases ha;exact⟨cs,hh⟩
end Go.Vm
namespace Go.Vm
theorem Mem.row_minus {M:Mem} {S:Nat→Prop} {b o n:Nat} {vs:List Value} (h:M.row b o n=some vs) (hb:¬S b):(M.minus S).row b o n=some vs:=by
 unfold Mem.row at h ⊢;have:M.minus S b=M b:=by unfold Mem.minus;rw[if_neg hb]
 rw[this];exact h
theorem SrcOk.minus {M:Mem} {S:Nat→Prop} {size:Nat} {a:Option Addr} {n:Nat} {l:List Value} (h:SrcOk M size a n l) (hb:∀ q,a=some q→¬S q.block):SrcOk (M.minus S) size a n l:=by
 obtain⟨hl,h1|⟨c,o,ha,h2⟩⟩:=h
 ·exact⟨hl,.inl h1⟩
 ·exact⟨hl,.inr ⟨c,o,ha,Mem.row_minus h2 (hb _ ha)⟩⟩
theorem zDI {α:Type} (l:List α) (o:Nat) (v:α) (h:o<l.length):splice l o [v]=l.set o v:=by
 unfold splice;rw[List.set_eq_take_append_cons_drop,if_pos h];simp
end Go.Vm
namespace Go.Vm
theorem Mem.row_obj {M:Mem} {b:Nat} {E:TypeId} {l:List Value} {fz:Nat×Nat} {o n:Nat} (hb:M b=some (.cells l.toArray E fz)) (h:o+n≤l.length):M.row b o n=some ((l.drop o).take n):=by
 simp[Mem.row,hb,h]
end Go.Vm
namespace Go.Vm
theorem Mem.has.minus {M:Mem} {S:Nat→Prop} {b:Nat} {E:TypeId} {l:List Value} (h:M.has b E l) (hb:¬S b):(M.minus S).has b E l:=by
 unfold Mem.has Mem.minus at *; rw[if_neg hb];exact h
end Go.Vm
namespace Go.Vm
theorem Wr.maplen {α:Type} {f:α→Value} {M:Mem} {E:TypeId} {a:Option Addr} {n c:Nat} {L:List α} (h:Wr M E 1 a n c (L.map f)):L.length=n:=by simpa using h.1
end Go.Vm
namespace Go.Vm
end Go.Vm
namespace Go.Vm
end Go.Vm
namespace Go.Vm
theorem zzz (l:List UInt8):∀ u∈l.map z7,u.oneCell'=true:=fun u hu=>by
 obtain⟨b,_,rfl⟩:=List.mem_map.1 hu;rfl
theorem zR {A B:Prop} (a:A) (k:A→B:=by intro a;(repeat' ((conv=>whnf);first|refine⟨?_,True.intro⟩|refine Go.Vm.brn_t rfl ?_|refine Go.Vm.brn_f rfl ?_|refine Go.Vm.ob rfl ?_|refine Go.Vm.ob (by decide) ?_|refine Go.Vm.obr rfl ?_|refine Go.Vm.grow_same (Go.Vm.Mem.le_refl _) ?_|refine Go.Vm.ob (Go.Vm.Mem.le_refl _) ?_|refine⟨_,Go.Vm.Mem.le_refl _,?_⟩|fail));exact a):B:=k a
theorem zX {A B:Prop} (a:A) (k:A→B:=by intro a;(repeat' ((conv=>whnf);first|refine⟨?_,True.intro⟩|refine Go.Vm.brn_t rfl ?_|refine Go.Vm.brn_f rfl ?_|refine Go.Vm.ob rfl ?_|refine Go.Vm.ob (by decide) ?_|refine Go.Vm.obr rfl ?_|refine Go.Vm.grow_same (Go.Vm.Mem.le_refl _) ?_|refine Go.Vm.ob (Go.Vm.Mem.le_refl _) ?_|fail));exact a):B:=k a
theorem zT {p A B:Prop} (h:p) (a:A) (k:p→A→B:=by intro h a;(repeat' ((conv=>whnf);first|refine Go.Vm.ob rfl ?_|refine Go.Vm.grow_same h ?_|refine Go.Vm.ob h ?_|refine⟨?_,True.intro⟩|fail));exact a):B:=k h a
theorem zS {t s:St} (h1:zw5 s.fr t.fr:=by repeat' first|exact True.intro|refine⟨rfl,?_⟩) (h2:zw6 s.bx t.bx:=by repeat' first|exact True.intro|refine⟨rfl,?_⟩) (h3:t.M.le s.M:=by exact Go.Vm.Mem.le_refl _) (h4:t.wf=true:=by rfl):t.sub s:=⟨h1,h2,h3,h4⟩
end Go.Vm
