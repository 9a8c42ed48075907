/- Part of this proof;laid by program. -/
import Derived.Test.YtdogcflaekkdkaaGreatJ6
set_option linter.unusedVariables false
set_option linter.unusedSimpArgs false
namespace Go.Vm
theorem brn {x:Bool} {A B:Prop} (h:x=true→A) (h':x=false→B):Brn x A B:=⟨h,h'⟩
theorem brn_t {x:Bool} {A B:Prop} (hx:x=true) (h:A):Brn x A B:=⟨fun _=>h,fun e=>absurd (hx.symm.trans e) (by simp)⟩
theorem brn_f {x:Bool} {A B:Prop} (hx:x=false) (h:B):Brn x A B:=⟨fun e=>absurd (hx.symm.trans e) (by simp),fun _=>h⟩
theorem ob {p A:Prop} (h:p) (h':A):Ob p A:=⟨h,h'⟩
theorem grow_same {X M:Mem} {A:Mem→Prop} (h:X.le M) (h':A X):Grow X M A:=⟨X,fun _ _ h=>h,h,h'⟩
theorem zOw {X M:Mem} {A:Mem→Prop} (X':Mem) (h:X.le X') (h2:X'.le M) (h':A X'):Grow X M A:=⟨X',h,h2,h'⟩
theorem on {α:Type} {x:Option α} {l:α} {k:α→Prop} (h:x=some l) (h':k l):onO x k:=by subst h;exact h'
theorem atp {a:Option Addr} {b o:Nat} {k:Nat→Nat→Prop} (h:a=some ⟨b,o,none⟩) (h':k b o):atO a k:=by subst h;exact h'
theorem CallsM.mono {P:Program} {f:Nat} {args:List Value} {M:Mem} {R R':Value→Mem→Prop} (h:CallsM P f args M R) (hr:∀ v M',R v M'→R' v M'):CallsM P f args M R':=
 ⟨h.1,fun F w h1 h2 h3=>(h.2 F w h1 h2 h3).mono fun _ _ ⟨v,M',he,hk,hx⟩=>⟨v,M',he,hr v M' hk,hx⟩⟩
theorem zOx {σ:Type} {body:(Exit→St→Prop)→St→Prop} {Q:Exit→St→Prop} {s:St} (st:σ→St) (inv:σ→Prop) (μ:σ→Nat) (x0:σ) (h0:inv x0) (hs:(st x0).sub s)
  (h:∀ x,inv x→body (zuJ Q fun s'=>∃ y,inv y∧μ y<μ x∧(st y).sub s') (st x)):zcB body Q s:=
 ⟨fun m t=>∃ x,inv x∧μ x=m∧t=st x,⟨_,_,⟨x0,h0,rfl,rfl⟩,hs⟩,fun m t ⟨x,hx,hm,ht⟩=>by
  subst hm;subst ht
  have e:(fun s'=>∃ m' t',m'<μ x∧(∃ y,inv y∧μ y=m'∧t'=st y)∧t'.sub s')=fun s'=>∃ y,inv y∧μ y<μ x∧(st y).sub s':=by
   funext s'
   apply propext
   constructor
   ·rintro ⟨m',t',h1,⟨y,h2,rfl,rfl⟩,h3⟩;exact⟨y,h2,h1,h3⟩
   ·rintro ⟨y,h1,h2,h3⟩;exact⟨_,_,h2,⟨y,h1,rfl,rfl⟩,h3⟩
  rw[e]
  exact h x hx⟩
theorem loop {σ:Type} {body:(Exit→St→Prop)→St→Prop} {Q:Exit→St→Prop} {s:St} (st:σ→St) (inv:σ→Prop) (μ:σ→Nat) (x0:σ) (h0:inv x0) (hs:(st x0).sub s)
  (h:∀ x,inv x→body (zuJ Q fun s'=>∃ y,inv y∧μ y<μ x∧(st y).sub s') (st x)):zc4 body Q s := .inl (zOx st inv μ x0 h0 hs h)
theorem zBC {σ:Type} {body:(Exit→St→Prop)→St→Prop} {Q:Exit→St→Prop} {fr0:List (Nat×SV)} {bx0:List BE} {M0:Mem} (keys:List Nat) (fr:σ→List (Nat×SV)) (bx:σ→List BE) (mem:σ→Mem) (inv:σ→Prop) (μ:σ→Nat) (x0:σ) (h0:inv x0)
  (hs:St.sub ⟨fr x0++zi0 keys fr0,bx x0,mem x0⟩ ⟨fr0,bx0,M0⟩)
  (h:∀ x,inv x→body (zuJ Q fun s'=>∃ y,inv y∧μ y<μ x∧St.sub ⟨fr y++zi0 keys fr0,bx y,mem y⟩ s') ⟨fr x++zi0 keys fr0,bx x,mem x⟩):zc4 body Q ⟨fr0,bx0,M0⟩:=
 loop (fun x=>⟨fr x++zi0 keys fr0,bx x,mem x⟩) inv μ x0 h0 hs h
theorem zp9 {σ:Type} {body:(Exit→St→Prop)→St→Prop} {Q:Exit→St→Prop} {fr0:List (Nat×SV)} {bx0:List BE} {M0:Mem} (keys:List Nat) (fr:σ→List (Nat×SV)) (inv:σ→Prop) (μ:σ→Nat) (x0:σ) (h0:inv x0)
  (hs:St.sub ⟨fr x0++zi0 keys fr0,bx0,M0⟩ ⟨fr0,bx0,M0⟩)
  (h:∀ x,inv x→body (zuJ Q fun s'=>∃ y,inv y∧μ y<μ x∧St.sub ⟨fr y++zi0 keys fr0,bx0,M0⟩ s') ⟨fr x++zi0 keys fr0,bx0,M0⟩):zc4 body Q ⟨fr0,bx0,M0⟩:=
 loop (fun x=>⟨fr x++zi0 keys fr0,bx0,M0⟩) inv μ x0 h0 hs h
theorem app {E:TypeId} {size bytes:Nat} {a:Option Addr} {n c m:Nat} {news:List Value} {M:Mem} {k:Option Addr→Nat→Mem→Prop} (M0:Mem) (L:List Value) (hown:Own M0 E size a n c L M)
  (h1:(n+m)*bytes≤140737488355328) (h2:n+m≤maxLen) (h3:∀ u∈news,u.oneCell'=true) (hk:∀ a' c' M',Own M0 E size a' (n+m) c' (L++news) M'→k a' c' M'):zfl E size bytes a n c m news M k:=
 ⟨h1,h2,h3,.inl ⟨M0,L,hown,fun a' c' M' _ ho=>hk a' c' M' ho⟩⟩
theorem zNG {M:Mem} {size:Nat} {a:Option Addr} {n:Nat} {k:List Value→Prop} {vs:List Value} (h:SrcOk M size a n vs) (hk:k vs):zkD M size a n k:=⟨vs,h,hk⟩
theorem zNH {M:Mem} {a:Option Addr} {n:Nat} {k:SV→Prop} {bs:List UInt8} (h:SrcOk M 1 a n (bs.map zy)) (hk:k (.c (.v (.string ⟨bs.toArray⟩)))):zi2 M a n k:=⟨bs,h,hk⟩
theorem new {M:Mem} {k:Nat→Prop} (h:∀ b,M b=none→k b):New M k:=h
theorem Mem.le_setCells {M:Mem} {b:Nat} {E:TypeId} {l:List Value} (h:M b=none):M.le (M.setCells b E l):=fun c o hc=>by
 have hne:c≠b:=fun e=>by subst e;rw[h] at hc;cases hc
 simpa[Mem.setCells,Mem.upd_ne _ _ hne] using hc
theorem Own.none (M:Mem) (E:TypeId) (size:Nat):Own M E size none 0 0 [] M:=⟨by simp,Nat.le_refl _,.inl ⟨rfl,rfl,rfl⟩⟩
theorem Own.lit {M:Mem} {b:Nat} (h:M b=Option.none) (E:TypeId) (size n:Nat) (L:List Value) (hl:L.length=n*size):Own M E size (some ⟨b,0,Option.none⟩) n n L (M.setCells b E L):=
 ⟨hl,Nat.le_refl _,.inr ⟨b,L,rfl,h,rfl,hl,by rw[List.take_of_length_le (by omega)]⟩⟩
theorem Own.base {M0:Mem} {E:TypeId} {size:Nat} {a:Option Addr} {n c:Nat} {L:List Value} {M:Mem} (h:Own M0 E size a n c L M):M0.le M:=by
 obtain⟨_,_,⟨_,_,rfl⟩|⟨b,cs,_,hb,rfl,_,_⟩⟩:=h
 ·exact Mem.le_refl _
 ·exact Mem.le_setCells hb
theorem Own.src {M0:Mem} {E:TypeId} {size:Nat} {a:Option Addr} {n c:Nat} {L:List Value} {M:Mem} (h:Own M0 E size a n c L M):SrcOk M size a n L:=by
 obtain⟨hl,hc,⟨rfl,rfl,rfl⟩|⟨b,cs,rfl,hb,rfl,hcl,ht⟩⟩:=h
 ·refine⟨hl,.inl ?_⟩
  have:n=0:=by omega
  subst this
  simpa using hl
 ·refine⟨hl,.inr ⟨b,0,rfl,?_⟩⟩
  have:n*size≤c*size:=Nat.mul_le_mul_right _ hc
  simp only[Mem.row,Mem.setCells,Mem.upd_same]
  rw[if_pos (by simp;omega)]
  simp[ht]
theorem Mem.row_le {A M:Mem} (h:A.le M) {b o n:Nat} {vs:List Value} (hr:A.row b o n=some vs):M.row b o n=some vs:=by
 unfold Mem.row at hr ⊢
 cases hA:A b with
 | none=>rw[hA] at hr;cases hr
 | some x=>rw[hA] at hr;rw[h b x hA];exact hr
theorem SrcOk.le {A M:Mem} (h:A.le M) {size:Nat} {a:Option Addr} {n:Nat} {vs:List Value} (hs:SrcOk A size a n vs):SrcOk M size a n vs:=by
 obtain⟨hl,h1|⟨b,o,ha,h2⟩⟩:=hs
 ·exact⟨hl,.inl h1⟩
 ·exact⟨hl,.inr ⟨b,o,ha,Mem.row_le h h2⟩⟩
theorem SrcOk.elem {M:Mem} {s:Nat} {a:Option Addr} {n:Nat} {vs:List Value} (h:SrcOk M s a n vs) {j:Nat} (hj:j<n) (hs:0<s) :
  ∃ b o,a=some ⟨b,o,Option.none⟩∧∀ p m,p+m≤s→M.row b (o+j*s+p) m=some ((vs.drop (j*s+p)).take m):=by
 obtain⟨hl,h⟩:=h
 have hle:(j+1)*s≤n*s:=Nat.mul_le_mul_right _ hj
 rw[Nat.succ_mul] at hle
 rcases h with rfl|⟨b,o,rfl,hr⟩
 ·simp at hl
  omega
 ·refine⟨b,o,rfl,fun p m hpm=>?_⟩
  unfold Mem.row at hr ⊢
  split at hr
  ·rename_i c e fz hM
   split at hr
   ·simp only[Option.some.injEq] at hr
    rw[if_pos (by omega),←hr]
    congr 1
    rw[List.drop_take,List.drop_drop,List.take_take]
    rw[Nat.min_eq_left (by omega)]
    congr 2
    omega
   ·cases hr
  ·cases hr
theorem SrcOk.get {M:Mem} {a:Option Addr} {n:Nat} {vs:List Value} (h:SrcOk M 1 a n vs) {j:Nat} {v:Value} (hv:vs[j]? = some v):∃ b o,a=some ⟨b,o,Option.none⟩∧M.row b (o+j*1) 1=some [v]:=by
 have hl:=h.1
 have hj:=(List.getElem?_eq_some_iff.1 hv).1
 obtain⟨b,o,h1,h2⟩:=h.elem (j:=j) (by omega) (by omega)
 refine⟨b,o,h1,?_⟩
 have:=h2 0 1 (by omega)
 simp only[Nat.add_zero] at this
 rw[List.getElem?_eq_getElem hj] at hv
 have hv:=Option.some.inj hv
 rw[this,Nat.mul_one,List.drop_eq_getElem_cons hj,hv]
 simp
theorem zu {n:Int} (h : -9223372036854775808≤n∧n≤9223372036854775807):inR .i64 n:=by
 unfold inR
 rw[IntKind.wrap_i64]
 omega
end Go.Vm
namespace Go.Vm
theorem Mem.le_upd {M:Mem} {b:Nat} {x:Obj} (h:M b=none):M.le (M.upd b x):=fun c o hc=>by
 have hne:c≠b:=fun e=>by subst e;rw[h] at hc;cases hc
 simpa[Mem.upd,hne] using hc
theorem Mem.upd_upd (M:Mem) (b:Nat) (x y:Obj):(M.upd b x).upd b y=M.upd b y:=by funext c;simp only[Mem.upd];split<;>rfl
def Mem.has (M:Mem) (b:Nat) (E:TypeId) (l:List Value):Prop:=M b=some (.cells l.toArray E (0,0))
theorem Mem.has.cells {M:Mem} {b:Nat} {E:TypeId} {l:List Value} (h:M.has b E l):M.cells b=some (E,l):=by unfold Mem.has at h;simp[Mem.cells,h]
theorem Mem.has.row {M:Mem} {b:Nat} {E:TypeId} {l:List Value} (h:M.has b E l) {o n:Nat} (hn:o+n≤l.length):M.row b o n=some ((l.drop o).take n):=by unfold Mem.has at h;simp[Mem.row,h,hn]
theorem Mem.has.le {A M:Mem} (hle:A.le M) {b:Nat} {E:TypeId} {l:List Value} (h:A.has b E l):M.has b E l:=hle _ _ h
theorem Mem.has_setCells {M:Mem} {b:Nat} {E:TypeId} {l:List Value}:(M.setCells b E l).has b E l:=by simp[Mem.has,Mem.setCells,Mem.upd]
def NewSl (M:Mem) (E:TypeId) (size:Nat) (a:Option Addr) (n c:Nat) (L:List Value) (M':Mem):Prop:=∃ M0,M.le M0∧Own M0 E size a n c L M'
theorem Own.new {M:Mem} {E:TypeId} {size:Nat} {a:Option Addr} {n c:Nat} {L:List Value} {M':Mem} (h:Own M E size a n c L M'):NewSl M E size a n c L M':=⟨M,Mem.le_refl _,h⟩
theorem NewSl.none (M:Mem) (E:TypeId) (size:Nat):NewSl M E size none 0 0 [] M:=(Own.none M E size).new
theorem NewSl.lit {M:Mem} {b:Nat} (h:M b=Option.none) (E:TypeId) (size n:Nat) (L:List Value) (hl:L.length=n*size):NewSl M E size (some ⟨b,0,Option.none⟩) n n L (M.setCells b E L):=(Own.lit h E size n L hl).new
theorem NewSl.le {M:Mem} {E:TypeId} {size:Nat} {a:Option Addr} {n c:Nat} {L:List Value} {M':Mem} (h:NewSl M E size a n c L M'):M.le M':=by
 obtain⟨M0,h0,h1⟩:=h;exact Mem.le_trans h0 h1.base
theorem NewSl.src {M:Mem} {E:TypeId} {size:Nat} {a:Option Addr} {n c:Nat} {L:List Value} {M':Mem} (h:NewSl M E size a n c L M'):SrcOk M' size a n L:=by
 obtain⟨M0,h0,h1⟩:=h;exact h1.src
theorem NewSl.mono {A M:Mem} {E:TypeId} {size:Nat} {a:Option Addr} {n c:Nat} {L:List Value} {M':Mem} (h:NewSl M E size a n c L M') (hA:A.le M):NewSl A E size a n c L M':=by
 obtain⟨M0,h0,h1⟩:=h;exact⟨M0,Mem.le_trans hA h0,h1⟩
theorem zqG {E:TypeId} {size bytes:Nat} {a:Option Addr} {n c m:Nat} {news:List Value} {M:Mem} {k:Option Addr→Nat→Mem→Prop} (M0:Mem) (L:List Value) (hown:NewSl M0 E size a n c L M)
  (h1:(n+m)*bytes≤140737488355328) (h2:n+m≤maxLen) (h3:∀ u∈news,u.oneCell'=true) (hk:∀ a' c' M',NewSl M0 E size a' (n+m) c' (L++news) M'→k a' c' M'):zfl E size bytes a n c m news M k:=by
 obtain⟨M1,h0,h⟩:=hown
 exact app M1 L h h1 h2 h3 fun a' c' M' ho=>hk a' c' M' ⟨M1,h0,ho⟩
theorem SrcOk.nil (M:Mem) (size:Nat):SrcOk M size none 0 []:=⟨by simp,.inl rfl⟩
def Mem.keep (S:Nat→Prop) (M M':Mem):Prop:=∀ b o,¬S b→M b=some o→M' b=some o
theorem Mem.keep_of_le {S:Nat→Prop} {M M':Mem} (h:M.le M'):Mem.keep S M M':=fun b o _ hb=>h b o hb
theorem Mem.keep_trans {S:Nat→Prop} {A B C:Mem} (h:Mem.keep S A B) (h':Mem.keep S B C):Mem.keep S A C:=fun b o hn hb=>h' b o hn (h b o hn hb)
theorem Mem.keep.le {S:Nat→Prop} {M0 M M':Mem} (h:Mem.keep S M M') (h0:M0.le M) (hS:∀ b,S b→M0 b=none):M0.le M':=fun b o hb=>h b o (fun hs=>by rw[hS b hs] at hb;cases hb) (h0 b o hb)
end Go.Vm
namespace Go.Vm
theorem SrcOk.at {α:Type} {M:Mem} {a:Option Addr} {n:Nat} {l:List α} {f:α→Value} (h:SrcOk M 1 a n (l.map f)) {i:Nat} (hi:i<n) :
  ∃ (hl:i<l.length) (b o:Nat),a=some ⟨b,o,Option.none⟩∧M.row b (o+i*1) 1=some [f l[i]]:=by
 have hl:l.length=n:=by simpa using h.1
 obtain⟨b,o,h1,h2⟩:=h.get (j:=i) (v:=f (l[i]'(by omega))) (by simp[List.getElem?_eq_getElem (show i<l.length by omega)])
 exact⟨by omega,b,o,h1,h2⟩
theorem SrcOk.maplen {α:Type} {M:Mem} {a:Option Addr} {n:Nat} {l:List α} {f:α→Value} (h:SrcOk M 1 a n (l.map f)):l.length=n:=by simpa using h.1
end Go.Vm
namespace Go.Vm
theorem newSl_iff {M:Mem} {E:TypeId} {s:Nat} {a:Option Addr} {n c:Nat} {L:List Value} {M':Mem} :
  NewSl M E s a n c L M'↔M.le M'∧L.length=n*s∧n≤c∧((a=Option.none∧c=0)∨∃ b cs,a=some ⟨b,0,Option.none⟩∧M b=Option.none∧M'.has b E cs∧cs.length=c*s∧cs.take (n*s)=L):=by
 constructor
 ·intro h
  refine⟨h.le,?_⟩
  obtain⟨M0,h0,h1,h2,h3⟩:=h
  refine⟨h1,h2,?_⟩
  rcases h3 with ⟨ha,hc,_⟩|⟨b,cs,ha,hb,rfl,hl,ht⟩
  ·exact .inl ⟨ha,hc⟩
  ·refine .inr ⟨b,cs,ha,?_,Mem.has_setCells,hl,ht⟩
   cases hx:M b with
   | none=>rfl
   | some x=>rw[h0 b x hx] at hb;cases hb
 ·rintro ⟨hle,h1,h2,⟨ha,hc⟩|⟨b,cs,ha,hb,hh,hl,ht⟩⟩
  ·exact⟨M',hle,h1,h2,.inl ⟨ha,hc,rfl⟩⟩
  ·refine⟨fun x=>if x=b then none else M' x,fun x o hx=>?_,h1,h2,.inr ⟨b,cs,ha,by simp,?_,hl,ht⟩⟩
   ·have hne:x≠b:=fun e=>by subst e;rw[hb] at hx;cases hx
    simp only[if_neg hne]
    exact hle x o hx
   ·funext x
    simp only[Mem.setCells,Mem.upd]
    split
    ·rename_i e;subst e;exact hh
    ·rfl
theorem NewSl.up {M:Mem} {E:TypeId} {s:Nat} {a:Option Addr} {n c:Nat} {L:List Value} {M1 M2:Mem} (h:NewSl M E s a n c L M1) (hle:M1.le M2):NewSl M E s a n c L M2:=by
 rw[newSl_iff] at h ⊢
 obtain⟨h0,h1,h2,h3⟩:=h
 exact⟨Mem.le_trans h0 hle,h1,h2,h3.imp id fun ⟨b,cs,ha,hb,hh,hr⟩=>⟨b,cs,ha,hb,hle _ _ hh,hr⟩⟩
theorem NewSl.keep {M:Mem} {E:TypeId} {s:Nat} {a:Option Addr} {n c:Nat} {L:List Value} {M1 M2:Mem} {S:Nat→Prop} (h:NewSl M E s a n c L M1) (hk:Mem.keep S M1 M2) (hS:∀ b,S b→M b=Option.none) (ha:∀ p,a=some p→¬S p.block):NewSl M E s a n c L M2:=by
 rw[newSl_iff] at h ⊢
 obtain⟨h0,h1,h2,h3⟩:=h
 exact⟨hk.le h0 hS,h1,h2,h3.imp id fun ⟨b,cs,hab,hb,hh,hr⟩=>⟨b,cs,hab,hb,hk _ _ (ha _ hab) hh,hr⟩⟩
end Go.Vm
namespace Go.Vm
def Mem.empty:Mem:=fun _=>none
theorem Mem.empty_le (M:Mem):Mem.empty.le M:=fun _ _ h=>by cases h
end Go.Vm
namespace Go.Vm
theorem Mem.has.c1 {M:Mem} {b:Nat} {E:TypeId} {l:List Value} (h:M.has b E l) {o:Nat} {v:Value} (hv:l[o]? = some v):M.row b o 1=some [v]:=by
 have hl:=(List.getElem?_eq_some_iff.1 hv).1
 rw[h.row (by omega),List.drop_eq_getElem_cons hl]
 have:=(List.getElem?_eq_some_iff.1 hv).2
 simp[this]
end Go.Vm
namespace Go.Vm
theorem NewSl.block {M:Mem} {E:TypeId} {s:Nat} {a:Option Addr} {n c:Nat} {L:List Value} {M':Mem} (h:NewSl M E s a n c L M') {q:Addr} (ha:a=some q):M q.block=Option.none∧∃ cs,M'.has q.block E cs:=by
 rw[newSl_iff] at h
 obtain⟨_,_,_,⟨h3,_⟩|⟨b,cs,hab,hb,hh,_⟩⟩:=h
 ·rw[h3] at ha;cases ha
 ·rw[hab] at ha;cases ha;exact⟨hb,cs,hh⟩
theorem Mem.has.inj {M:Mem} {b:Nat} {E E':TypeId} {l l':List Value} (h:M.has b E l) (h':M.has b E' l'):E=E'∧l=l':=by
 unfold Mem.has at h h';rw[h] at h';simp at h';exact⟨h'.2,h'.1⟩
def Wr (M:Mem) (E:TypeId) (s:Nat) (a:Option Addr) (n c:Nat) (L:List Value):Prop:=
 L.length=n*s∧n≤c∧((a=Option.none∧c=0)∨∃ b cs,a=some ⟨b,0,Option.none⟩∧M.has b E cs∧cs.length=c*s∧cs.take (n*s)=L)
theorem NewSl.wr {M:Mem} {E:TypeId} {s:Nat} {a:Option Addr} {n c:Nat} {L:List Value} {M':Mem} (h:NewSl M E s a n c L M'):Wr M' E s a n c L:=by
 rw[newSl_iff] at h
 obtain⟨_,h1,h2,h3⟩:=h
 exact⟨h1,h2,h3.imp id fun ⟨b,cs,ha,_,hr⟩=>⟨b,cs,ha,hr⟩⟩
theorem Wr.mono {M M':Mem} {E:TypeId} {s:Nat} {a:Option Addr} {n c:Nat} {L:List Value} (h:Wr M E s a n c L) (hk:∀ p o,a=some p→M p.block=some o→M' p.block=some o):Wr M' E s a n c L:=by
 obtain⟨h1,h2,h3⟩:=h
 exact⟨h1,h2,h3.imp id fun ⟨b,cs,ha,hh,hr⟩=>⟨b,cs,ha,hk _ _ ha hh,hr⟩⟩
theorem Wr.le {M M':Mem} {E:TypeId} {s:Nat} {a:Option Addr} {n c:Nat} {L:List Value} (h:Wr M E s a n c L) (hle:M.le M'):Wr M' E s a n c L:=h.mono fun _ _ _=>hle _ _
def Elems {α:Type} (M:Mem) (s:Nat) (a:Option Addr) (n:Nat) (R:List Value→α→Prop) (l:List α):Prop:=
 ∃ css:List (List Value),SrcOk M s a n css.flatten∧css.length=n∧l.length=n∧(∀ cs∈css,cs.length=s)∧∀ (i:Nat) cs x,css[i]? = some cs→l[i]? = some x→R cs x
theorem zsG {α:Type} {s:Nat}:∀ {css:List (List α)} (_:∀ cs∈css,cs.length=s) {i:Nat} {cs:List α} (_:css[i]? = some cs),(css.flatten.drop (i*s)).take s=cs
 | [],_,i,cs,hi=>by simp at hi
 | c::r,h,0,cs,hi=>by
  simp at hi;subst hi
  have:c.length=s:=h c (by simp)
  simp[←this]
 | c::r,h,i+1,cs,hi=>by
  have hc:c.length=s:=h c (by simp)
  simp only[List.flatten_cons]
  rw[Nat.succ_mul,Nat.add_comm,←List.drop_drop,show (c++r.flatten).drop s=r.flatten by rw[←hc];simp]
  exact zsG (fun cs hcs=>h cs (List.mem_cons_of_mem _ hcs)) (by simpa using hi)
theorem Elems.nil {α:Type} (M:Mem) (s:Nat) (R:List Value→α→Prop):Elems M s Option.none 0 R []:=⟨[],SrcOk.nil M s,rfl,rfl,by simp,by simp⟩
def zkr {α:Type} (M:Mem) (E:TypeId) (s:Nat) (a:Option Addr) (n c:Nat) (R:List Value→α→Prop) (l:List α) (M':Mem):Prop:=
 ∃ css:List (List Value),NewSl M E s a n c css.flatten M'∧css.length=n∧l.length=n∧(∀ cs∈css,cs.length=s)∧∀ (i:Nat) cs x,css[i]? = some cs→l[i]? = some x→R cs x
def blk (a:Option Addr):Nat→Prop:=fun x=>∃ q,a=some q∧q.block=x
theorem appK {E:TypeId} {size bytes:Nat} {a:Option Addr} {n c m:Nat} {news:List Value} {M:Mem} {k:Option Addr→Nat→Mem→Prop} (M0:Mem) (L:List Value) (hown:NewSl M0 E size a n c L M)
  (h1:(n+m)*bytes≤140737488355328) (h2:n+m≤maxLen) (h3:∀ u∈news,u.oneCell'=true) (hk:∀ a' c' M',NewSl M0 E size a' (n+m) c' (L++news) M'→Mem.keep (blk a) M M'→k a' c' M'):zfl E size bytes a n c m news M k:=by
 rw[newSl_iff] at hown
 obtain⟨h0,h4,h5,⟨ha,hc⟩|⟨b,cs,ha,hb,hh,hl,ht⟩⟩:=hown
 ·refine app M L ⟨h4,h5,.inl ⟨ha,hc,rfl⟩⟩ h1 h2 h3 fun a' c' M' ho=>hk a' c' M' ⟨M,h0,ho⟩ (Mem.keep_of_le ho.base)
 ·refine app (fun x=>if x=b then Option.none else M x) L ⟨h4,h5,.inr ⟨b,cs,ha,by simp,?_,hl,ht⟩⟩ h1 h2 h3 fun a' c' M' ho=>hk a' c' M' ⟨_,?_,ho⟩ ?_
  ·funext x
   simp only[Mem.setCells,Mem.upd]
   split
   ·rename_i e;subst e;exact hh
   ·rfl
  ·intro x o hx
   have hne:x≠b:=fun e=>by subst e;rw[hb] at hx;cases hx
   simp only[if_neg hne]
   exact h0 x o hx
  ·intro x o hn hx
   have hne:x≠b:=fun e=>hn ⟨_,ha,e.symm⟩
   exact ho.base x o (by simp only[if_neg hne];exact hx)
end Go.Vm
namespace Go.Vm
open Classical in
noncomputable def Mem.minus (M:Mem) (S:Nat→Prop):Mem:=fun x=>if S x then none else M x
theorem Mem.minus_le (M:Mem) (S:Nat→Prop):(M.minus S).le M:=fun b o h=>by unfold Mem.minus at h;split at h;cases h;exact h
theorem Mem.keep_minus {M M':Mem} {S:Nat→Prop}:Mem.keep S M M'↔(M.minus S).le M':=by
 constructor
 ·intro h b o hb
  unfold Mem.minus at hb;split at hb
  ·cases hb
  ·exact h b o ‹_› hb
 ·intro h b o hn hb
  exact h b o (by unfold Mem.minus;rw[if_neg hn];exact hb)
theorem Mem.minus_in {M:Mem} {S:Nat→Prop} {b:Nat} (h:S b):M.minus S b=none:=by unfold Mem.minus;rw[if_pos h]
end Go.Vm
namespace Go.Vm
theorem Wr.block {M:Mem} {E:TypeId} {s:Nat} {a:Option Addr} {n c:Nat} {L:List Value} (h:Wr M E s a n c L) {q:Addr} (ha:a=some q):∃ cs,M.has q.block E cs:=by
 obtain⟨_,_,⟨h3,_⟩|⟨b,cs,hab,hh,_⟩⟩:=h
 ·rw[h3] at ha;cases ha
 ·rw[hab] at ha;cases ha;exact⟨cs,hh⟩
end Go.Vm
namespace Go.Vm
theorem Mem.row_minus {M:Mem} {S:Nat→Prop} {b o n:Nat} {vs:List Value} (h:M.row b o n=some vs) (hb:¬S b):(M.minus S).row b o n=some vs:=by
 unfold Mem.row at h ⊢
 have:M.minus S b=M b:=by unfold Mem.minus;rw[if_neg hb]
 rw[this];exact h
theorem SrcOk.minus {M:Mem} {S:Nat→Prop} {size:Nat} {a:Option Addr} {n:Nat} {l:List Value} (h:SrcOk M size a n l) (hb:∀ q,a=some q→¬S q.block):SrcOk (M.minus S) size a n l:=by
 obtain⟨hl,h1|⟨c,o,ha,h2⟩⟩:=h
 ·exact⟨hl,.inl h1⟩
 ·exact⟨hl,.inr ⟨c,o,ha,Mem.row_minus h2 (hb _ ha)⟩⟩
end Go.Vm
namespace Go.Vm
theorem Mem.textAt_setCells {M:Mem} {b:Nat} {E:TypeId} {l:List Value}:(M.setCells b E l).textAt b=some (.cells l.toArray E (l.length,l.length+1)):=by
 simp[Mem.textAt,Mem.setCells,Mem.upd]
end Go.Vm
namespace Go.Vm
end Go.Vm
namespace Go.Vm
end Go.Vm
namespace Go.Vm
end Go.Vm
namespace Go.Vm
theorem SrcOk.sub {M:Mem} {s:Nat} {a:Option Addr} {n:Nat} {vs:List Value} (h:SrcOk M s a n vs) {lo hi c:Nat} (h1:lo≤hi) (h2:hi≤n) (hc:n≤c) (hs:0<s):SrcOk M s (zaa a lo c s) (hi - lo) ((vs.drop (lo*s)).take ((hi - lo)*s)):=by
 have hl:=h.1
 have hm:(hi - lo)*s+lo*s=hi*s:=by rw[←Nat.add_mul];congr 1;omega
 have hm2:hi*s≤n*s:=Nat.mul_le_mul_right _ h2
 refine⟨by simp;omega,?_⟩
 by_cases hz:hi - lo=0
 ·left;rw[hz];simp
 right
 rcases h.2 with h3|⟨b,o,ha,hr⟩
 ·subst h3
  have:1*s≤n*s:=Nat.mul_le_mul_right _ (by omega)
  simp at hl;omega
 ·refine⟨b,o+lo*s,?_,?_⟩
  ·unfold zaa
   rw[if_neg (by omega),ha]
   simp[zcZ]
  ·unfold Mem.row at hr ⊢
   split at hr
   ·split at hr
    ·rename_i hle
     have:=Option.some.inj hr
     rw[if_pos (by omega),←this,List.drop_take,List.drop_drop,List.take_take,Nat.min_eq_left (by omega)]
    ·cases hr
   ·cases hr
theorem SrcOk.subm {α:Type} {f:α→Value} {M:Mem} {a:Option Addr} {n:Nat} {l:List α} (h:SrcOk M 1 a n (l.map f)) {lo hi c:Nat} (h1:lo≤hi) (h2:hi≤n) (hc:n≤c):SrcOk M 1 (zaa a lo c 1) (hi - lo) (((l.drop lo).take (hi - lo)).map f):=by
 have:=h.sub (lo:=lo) (hi:=hi) h1 h2 hc (by decide)
 simpa[List.map_take,List.map_drop] using this
end Go.Vm
namespace Go.Vm
theorem zly (l:List UInt8):∀ u∈l.map zy,u.oneCell'=true:=fun u hu=>by
 obtain⟨b,_,rfl⟩:=List.mem_map.1 hu;rfl
theorem zR {A B:Prop} (a:A) (k:A→B:=by intro a;(repeat' ((conv=>whnf);first|refine⟨?_,True.intro⟩|refine Go.Vm.brn_t rfl ?_|refine Go.Vm.brn_f rfl ?_|refine Go.Vm.ob rfl ?_|refine Go.Vm.ob (by decide) ?_|refine Go.Vm.grow_same (Go.Vm.Mem.le_refl _) ?_|refine Go.Vm.ob (Go.Vm.Mem.le_refl _) ?_|refine⟨_,Go.Vm.Mem.le_refl _,?_⟩|fail));exact a):B:=k a
theorem zX {A B:Prop} (a:A) (k:A→B:=by intro a;(repeat' ((conv=>whnf);first|refine⟨?_,True.intro⟩|refine Go.Vm.brn_t rfl ?_|refine Go.Vm.brn_f rfl ?_|refine Go.Vm.ob rfl ?_|refine Go.Vm.ob (by decide) ?_|refine Go.Vm.grow_same (Go.Vm.Mem.le_refl _) ?_|refine Go.Vm.ob (Go.Vm.Mem.le_refl _) ?_|fail));exact a):B:=k a
theorem zT {p A B:Prop} (h:p) (a:A) (k:p→A→B:=by intro h a;(repeat' ((conv=>whnf);first|refine Go.Vm.ob rfl ?_|refine Go.Vm.grow_same h ?_|refine Go.Vm.ob h ?_|refine⟨?_,True.intro⟩|fail));exact a):B:=k h a
theorem zS {t s:St} (h1:zxD s.fr t.fr:=by repeat' first|exact True.intro|refine⟨rfl,?_⟩) (h2:zxE s.bx t.bx:=by repeat' first|exact True.intro|refine⟨rfl,?_⟩) (h3:t.M.le s.M:=by exact Go.Vm.Mem.le_refl _) (h4:t.wf=true:=by rfl):t.sub s:=⟨h1,h2,h3,h4⟩
end Go.Vm
namespace Go.Proofs.YtdogcflaekkdkaaGreat
open Go.Vm Go.Vm.S
def zwp (i:Nat):List Nat:=match i with|0=>[4]|1=>[13,14,15,16,17,18]|2=>[7,19]|4=>[6,21,22,23]|5=>[24,25,26,27]|6=>[28,29]|7=>[8,30,31,32,33,34,35]|8=>[9,36,37,38,39,40,41,42]|9=>[44]|10=>[45,46]|11=>[0,47,48,49,50]|13=>[1,51]|15=>[5,10,11,12,53,54,55,56,57,58,59,60,61,62,63,64,65,66,67,68,69,70,71,72,73,74,75,76,77,78,79,80,81,82,83,84,85]|_=>[]
def zwq:RCode := .seq (.ops [mv 4 (kb false)] [4]) (.seq (.ops [ca 14 F.zc0 [],ca 15 F.zf0 [(t 14)],mv 13 (t 15),ex 16 (t 13) 0,ex 17 (t 13) 1,ex 18 (t 13) 2,mv 5 (t 16),mv 6 (t 17),mv 7 (t 18)] [13,14,15,16,17,18]) (.seq (.seq (.ops [mv 19 (t 7),o 20 (.not (t 19))] [7,19]) (.cond (t 20) (.seq (.ops [mv 4 (kb false)] []) (.ret)) (.skip))) (.seq (.ops [mv 21 (t 5),mv 22 (t 6),ca 23 F.zdt [(t 21),(t 22),(k 6)]] [6,21,22,23]) (.seq (.ops [mv 24 (t 5),o 25 (.mkSl false 5 1 [(u 0)] [(0,1,(.const (u 120)))]),o 26 (.strish (t 25)),ca 27 F.zaV [(t 24),(k 1),(t 26)]] [24,25,26,27]) (.seq (.ops [mv 28 (t 5),ca 29 F.zZ [(t 28),(k 1)]] [28,29]) (.seq (.ops [o 31 (.build [(.bool false),sn,(i 0),(i 0),(i 0),(i 0),(i 0)] []),mv 32 (t 0),ca 33 F.zl6 [(t 31),(t 32)],mv 30 (t 33),ex 34 (t 30) 0,ex 35 (t 30) 1,o 8 (.alloc 44 [(.bool false),sn,(i 0),(i 0),(i 0),(i 0),(i 0)]),st 7 (t 8) (t 34),mv 9 (t 35)] [8,30,31,32,33,34,35]) (.seq (.seq (.ops [mv 36 (t 9),o 37 (.len (t 36)),o 38 (.ibin .gtr (t 37) (k 0)),os 39 (.mov (t 38)),gf 39 40 (.mov (t 0)),gf 39 41 (.len (t 40)),gf 39 42 (.ibin .gtr (t 41) (k 3000)),o 43 (.pick (t 39) (kb true) (t 42))] [9,36,37,38,39,40,41,42]) (.cond (t 43) (.seq (.ops [ca 44 F.za0 [],mv 4 (t 44)] [44]) (.ret)) (.skip))) (.seq (.ops [mv 45 (t 5),ca 46 F.z6 [(t 45)],o 10 (.alloc 52 [(i 0),(i 0),sn,sn,sn]),st 5 (t 10) (t 46)] [45,46]) (.seq (.ops [mv 47 (t 5),mv 48 (t 1),mv 49 (t 0),ca 50 F.zJ [(t 47),(t 48),(t 49)],mv 11 (t 50)] [0,47,48,49,50]) (.seq (.ops [mv 12 (k 0)] []) (.seq (.seq (.ops [mv 51 (t 1),o 52 (.ibin .neq (t 51) (k 1))] [1,51]) (.cond (t 52) (.ops [mv 12 (k 4)] []) (.skip))) (.seq (.draw (.take (mv 53 (t 11)) (.take (mv 54 (t 12)) (.take (o 55 (.ibin .eql (t 53) (t 54))) (.take (os 56 (.mov (t 55))) (.take (gt 56 57 (.mov (t 5))) (.take (gt 56 59 (.load true 5 (t 10))) (.alt (gt 56 58 (.call (fn F.z6) [(t 57)])) true (.alt (gt 56 60 (.call (fn F.zbI) [(t 58),(t 59)])) false (.take (o 61 (.pick (t 56) (t 60) (kb false))) (.take (os 62 (.mov (t 61))) (.take (gt 62 63 (.mov (t 5))) (.alt (gt 62 64 (.call (fn F.zZ) [(t 63),(k 1)])) false (.take (gt 62 65 (.len (t 64))) (.take (gt 62 66 (.ibin .eql (t 65) (k 0))) (.take (o 67 (.pick (t 62) (t 66) (kb false))) (.take (os 68 (.mov (t 67))) (.take (gt 68 69 (.mov (t 5))) (.alt (gt 68 70 (.call (fn F.zaq) [(t 69)])) false (.take (gt 68 71 (.len (t 70))) (.take (gt 68 72 (.ibin .eql (t 71) (k 0))) (.take (o 73 (.pick (t 68) (t 72) (kb false))) (.take (os 74 (.mov (t 73))) (.take (gt 74 75 (.mov (t 5))) (.alt (gt 74 76 (.call (fn F.zdu) [(t 75),(k 1)])) true (.take (o 77 (.pick (t 74) (t 76) (kb false))) (.take (os 78 (.mov (t 77))) (.take (gt 78 79 (.mov (t 5))) (.alt (gt 78 80 (.call (fn F.zcC) [(t 79)])) true (.take (gt 78 81 (.ibin .eql (t 80) (k 0))) (.take (o 82 (.pick (t 78) (t 81) (kb false))) (.take (os 83 (.mov (t 82))) (.alt (gt 83 84 (.call (fn F.za0) [])) true (.take (o 85 (.pick (t 83) (t 84) (kb false))) (.take (mv 4 (t 85)) (.done))) (.none))))) (.none))))) (.none))))))) (.none))))))) (.none))))) (.none)) (.none)))))))) [5,10,11,12,53,54,55,56,57,58,59,60,61,62,63,64,65,66,67,68,69,70,71,72,73,74,75,76,77,78,79,80,81,82,83,84,85]) (.ret)))))))))))))
def zwr:List zd:=[.tmp 4]
theorem zu4 {args:List Value} {M:Mem} {R:Value→Mem→Prop} (hn:args.length≤86) (h:zi Tryz.prog zwq zwr args M R):CallsM Tryz.prog F.zlb args M R:=zf (kf:=zwp) Tryz.func4 (by kernel_rfl) (by kernel_rfl) hn (by kernel_rfl) h
def zAw (i:Nat):List Nat:=match i with|1=>[1,2]|_=>[]
def zAx:RCode := .seq (.ops [o 0 (.alloc 25 [(i 0),(i 0),(i 0),(i 0),(i 0),(i 0),(i 0),(i 0),(i 0),(i 0)])] []) (.seq (.ops [o 1 (.build [(i 0),(i 0),(i 0)] [(0,1,(k 50)),(1,1,(k 2000)),(2,1,(k 50))]),o 2 (.build [(i 0),(i 0),(i 0),(i 0),(i 0),(i 0),(i 0),(i 0),(i 0),(i 0)] [(0,3,(t 1)),(3,1,(k 100000)),(4,1,(k 200)),(5,1,(k 4)),(6,1,(k 3)),(7,1,(k 3)),(8,1,(k 3))]),st 10 (t 0) (t 2)] [1,2]) (.ret))
def zAy:List zd:=[.cell true 10 0]
theorem zy8 {args:List Value} {M:Mem} {R:Value→Mem→Prop} (hn:args.length≤3) (h:zi Tryz.prog zAx zAy args M R):CallsM Tryz.prog F.zc0 args M R:=zf (kf:=zAw) Tryz.func10 (by kernel_rfl) (by kernel_rfl) hn (by kernel_rfl) h
def zB2 (i:Nat):List Nat:=match i with|0=>[0,5]|1=>[10]|3=>[11,12,13]|5=>[17,18,19,20,21,22,23,24,25]|6=>[8,26]|7=>[27,28]|8=>[9,30,31,32,33]|4=>[15,16]|9=>[2,6,34,35]|_=>[]
def zB3:RCode := .seq (.ops [o 2 (.box 44 (t 0)),o 4 (.alloc 44 [(.bool false),sn,(i 0),(i 0),(i 0),(i 0),(i 0)]),mv 5 (.const sn)] [0,5]) (.seq (.ops [o 10 (.mkSl false 30 0 [] []),mv 6 (t 10)] [10]) (.seq (.seq (.ops [mv 7 (k 0)] []) (.block 0 (.loop (.seq (.seq (.ops [mv 11 (t 7),mv 12 (t 1),o 13 (.len (t 12)),o 14 (.ibin .lss (t 11) (t 13))] [11,12,13]) (.cond (t 14) (.skip) (.exit 0))) (.seq (.block 1 (.seq (.draw (.take (la 18 7 (t 2)) (.take (mv 19 (t 1)) (.take (mv 20 (t 7)) (.take (o 21 (.iaddr 1 (t 19) (t 20))) (.take (l1 22 (t 21)) (.alt (ca 23 F.zf1 [(t 18),(t 22)]) false (.take (mv 17 (t 23)) (.take (ex 24 (t 17) 0) (.take (ex 25 (t 17) 1) (.alt (o 8 (.alloc 44 [(.bool false),sn,(i 0),(i 0),(i 0),(i 0),(i 0)])) false (.alt (st 7 (t 8) (t 24)) false (.take (mv 9 (t 25)) (.done)) (.none)) (.none))))) (.alt (o 8 (.alloc 44 [(.bool false),sn,(i 0),(i 0),(i 0),(i 0),(i 0)])) false (.alt (ca 23 F.zf1 [(t 18),(t 22)]) false (.take (mv 17 (t 23)) (.take (ex 24 (t 17) 0) (.take (ex 25 (t 17) 1) (.alt (st 7 (t 8) (t 24)) false (.take (mv 9 (t 25)) (.done)) (.none))))) (.none)) (.none)))))))) [17,18,19,20,21,22,23,24,25]) (.seq (.ops [la 26 7 (t 8),st 7 (t 2) (t 26)] [8,26]) (.seq (.ops [mv 27 (t 9),o 28 (.len (t 27)),o 29 (.ibin .gtr (t 28) (k 0))] [27,28]) (.cond (t 29) (.ops [mv 30 (t 6),mv 31 (t 9),o 32 (.mkSl true 30 1 [sn] [(0,1,(t 31))]),o 33 (.app 30 1 24 [sn] (t 30) (t 32)),mv 6 (t 33)] [9,30,31,32,33]) (.skip)))))) (.ops [mv 15 (t 7),ad 16 (t 15) (k 1),mv 7 (t 16)] [15,16])))))) (.seq (.ops [la 34 7 (t 2),mv 35 (t 6),st 7 (t 4) (t 34),mv 5 (t 35)] [2,6,34,35]) (.ret))))
def zB4:List zd:=[.cell true 7 4,.tmp 5]
theorem zAz {args:List Value} {M:Mem} {R:Value→Mem→Prop} (hn:args.length≤36) (h:zi Tryz.prog zB3 zB4 args M R):CallsM Tryz.prog F.zl6 args M R:=zf (kf:=zB2) Tryz.func14 (by kernel_rfl) (by kernel_rfl) hn (by kernel_rfl) h
def zsK (i:Nat):List Nat:=match i with|0=>[6]|1=>[15,16]|2=>[17]|3=>[7,19]|4=>[20,21,22,23,24,25]|5=>[26]|7=>[2,28,29,30,31,32]|9=>[37,38]|10=>[10,39,40,41,42,43]|11=>[12,44]|12=>[46,47,48,49,50,51,52]|13=>[11,53,54,55,56,57,58]|14=>[59,60,61,62]|16=>[67,68]|17=>[69,70,71,72,73]|18=>[14,75,76,77,78]|19=>[79]|20=>[80]|21=>[81,82]|22=>[0,83,84]|_=>[]
def zsL:RCode := .seq (.ops [mv 6 (k 0)] [6]) (.seq (.seq (.ops [mv 15 (t 0),ca 16 F.zM [(t 15)],mv 7 (t 16)] [15,16]) (.seq (.ops [mv 17 (t 7),o 18 (.ibin .neq (t 17) (k 0))] [17]) (.cond (t 18) (.seq (.ops [mv 19 (t 7),mv 6 (t 19)] [7,19]) (.ret)) (.skip)))) (.seq (.ops [mv 20 (t 0),o 21 (.nilck (t 20)),fa 22 12 (t 21),l1 23 (t 22),mv 24 (t 1),o 25 (.mget .int false (.pointer none) (t 23) (t 24)),mv 8 (t 25)] [20,21,22,23,24,25]) (.seq (.seq (.ops [mv 26 (t 8),o 27 (.pnil .eql (t 26) (.const (.pointer none)))] [26]) (.cond (t 27) (.seq (.ops [mv 6 (k 4)] []) (.ret)) (.skip))) (.seq (.seq (.ops [mv 28 (t 8),o 29 (.nilck (t 28)),fa 30 1 (t 29),l1 31 (t 30),mv 32 (t 2),ca 33 F.zbd [(t 31),(t 32)],o 34 (.len (t 33)),mv 35 (k 0)] [2,28,29,30,31,32]) (.block 0 (.loop (.seq (.ops [o 36 (.ibin .lss (t 35) (t 34))] []) (.seq (.cond (t 36) (.skip) (.exit 0)) (.seq (.block 1 (.seq (.ops [o 37 (.iaddr 1 (t 33) (t 35)),l1 38 (t 37),mv 10 (t 38)] [37,38]) (.seq (.ops [mv 40 (t 10),ca 41 F.zkF [(t 40)],mv 39 (t 41),ex 42 (t 39) 0,ex 43 (t 39) 1,o 11 (.alloc 101 [(i 0),(i 0),(i 0),(.bool false),(i 0),(i 0),sn]),st 7 (t 11) (t 42),mv 12 (t 43)] [10,39,40,41,42,43]) (.seq (.seq (.ops [mv 44 (t 12),o 45 (.ibin .neq (t 44) (k 0))] [12,44]) (.cond (t 45) (.seq (.ops [mv 46 (t 0),o 47 (.nilck (t 46)),fa 48 17 (t 47),l1 49 (t 48),ad 50 (t 49) (k 1),o 51 (.nilck (t 46)),fa 52 17 (t 51),st 1 (t 52) (t 50)] [46,47,48,49,50,51,52]) (.exit 1)) (.skip))) (.seq (.draw (.take (mv 53 (t 8)) (.take (o 54 (.nilck (t 53))) (.take (fa 55 0 (t 54)) (.take (l1 56 (t 55)) (.take (la 57 7 (t 11)) (.alt (ca 58 F.zdN [(t 56),(t 57)]) false (.done) (.none))))))) [11,53,54,55,56,57,58]) (.seq (.ops [mv 59 (t 8),o 60 (.nilck (t 59)),fa 61 0 (t 60),l1 62 (t 61),ca 63 F.zi6 [(t 62)],o 64 (.len (t 63)),mv 65 (k 0)] [59,60,61,62]) (.block 2 (.loop (.seq (.ops [o 66 (.ibin .lss (t 65) (t 64))] []) (.seq (.cond (t 66) (.skip) (.exit 2)) (.seq (.block 3 (.seq (.ops [o 67 (.iaddr 1 (t 63) (t 65)),l1 68 (t 67),mv 14 (t 68)] [67,68]) (.seq (.ops [mv 69 (t 0),o 70 (.nilck (t 69)),fa 71 11 (t 70),l1 72 (t 71),ca 73 F.zO [(t 72)],o 74 (.not (t 73))] [69,70,71,72,73]) (.cond (t 74) (.ops [mv 75 (t 0),mv 76 (t 1),mv 77 (t 14),ca 78 F.zgr [(t 75),(t 76),(t 77)]] [14,75,76,77,78]) (.skip))))) (.ops [ad 79 (t 65) (k 1),mv 65 (t 79)] [79])))))))))))) (.ops [ad 80 (t 35) (k 1),mv 35 (t 80)] [80]))))))) (.seq (.ops [mv 81 (t 0),ca 82 F.z7 [(t 81)]] [81,82]) (.seq (.ops [mv 83 (t 0),ca 84 F.zM [(t 83)],mv 6 (t 84)] [0,83,84]) (.ret)))))))
def zsM:List zd:=[.tmp 6]
theorem zmf {args:List Value} {M:Mem} {R:Value→Mem→Prop} (hn:args.length≤85) (h:zi Tryz.prog zsL zsM args M R):CallsM Tryz.prog F.zJ args M R:=zf (kf:=zsK) Tryz.func16 (by kernel_rfl) (by kernel_rfl) hn (by kernel_rfl) h
def zB5 (i:Nat):List Nat:=match i with|0=>[0,5]|1=>[9]|2=>[11,12,13,14,15,16,17]|3=>[2,19,20,21]|4=>[22,23,24,25,26,27]|5=>[2,6,7,28,29,30,31,32,33]|6=>[34]|7=>[2,36]|8=>[37,38,39]|9=>[2,41,42,43,44]|10=>[45,46,47,48]|11=>[1,2,8,49,50,51,52,53,54,55]|_=>[]
def zB6:RCode := .seq (.ops [o 2 (.box 44 (t 0)),o 4 (.alloc 44 [(.bool false),sn,(i 0),(i 0),(i 0),(i 0),(i 0)]),mv 5 (.const sn)] [0,5]) (.seq (.seq (.ops [mv 9 (t 1),o 10 (.ibin .eql (t 9) (.const (u 126)))] [9]) (.cond (t 10) (.seq (.seq (.ops [fa 11 0 (t 2),l1 12 (t 11),os 13 (.mov (t 12)),gf 13 14 (.faddr 1 (t 2)),gf 13 15 (.load false 1 (t 14)),gf 13 16 (.len (t 15)),gf 13 17 (.ibin .eql (t 16) (k 0)),o 18 (.pick (t 13) (kb true) (t 17))] [11,12,13,14,15,16,17]) (.cond (t 18) (.seq (.ops [fa 19 2 (t 2),la 20 5 (t 19),o 21 (.build [(.bool false),sn,(i 0),(i 0),(i 0),(i 0),(i 0)] [(2,5,(t 20))]),st 7 (t 4) (t 21),mv 5 (.const sn)] [2,19,20,21]) (.ret)) (.skip))) (.seq (.ops [fa 23 1 (t 2),l1 24 (t 23),ca 25 F.zma [(t 24)],mv 22 (t 25),ex 26 (t 22) 0,ex 27 (t 22) 1,mv 6 (t 26),mv 7 (t 27)] [22,23,24,25,26,27]) (.seq (.ops [fa 28 2 (t 2),la 29 5 (t 28),mv 30 (t 6),ca 31 F.zev [(t 29),(t 30)],o 32 (.build [(.bool false),sn,(i 0),(i 0),(i 0),(i 0),(i 0)] [(2,5,(t 31))]),mv 33 (t 7),st 7 (t 4) (t 32),mv 5 (t 33)] [2,6,7,28,29,30,31,32,33]) (.ret)))) (.skip))) (.seq (.seq (.ops [fa 34 0 (t 2),l1 35 (t 34)] [34]) (.cond (t 35) (.seq (.ops [la 36 7 (t 2),st 7 (t 4) (t 36),mv 5 (.const sn)] [2,36]) (.ret)) (.skip))) (.seq (.seq (.ops [fa 37 1 (t 2),l1 38 (t 37),o 39 (.len (t 38)),o 40 (.ibin .geq (t 39) (k 260))] [37,38,39]) (.cond (t 40) (.seq (.ops [fa 41 2 (t 2),la 42 5 (t 41),ca 43 F.zev [(t 42),(k 4)],o 44 (.build [(.bool false),sn,(i 0),(i 0),(i 0),(i 0),(i 0)] [(0,1,(kb true)),(2,5,(t 43))]),st 7 (t 4) (t 44),mv 5 (.const sn)] [2,41,42,43,44]) (.ret)) (.skip))) (.seq (.ops [o 45 (.mkSl false 5 0 [] []),fa 46 1 (t 2),l1 47 (t 46),o 48 (.app 5 1 1 [(u 0)] (t 45) (t 47)),mv 8 (t 48)] [45,46,47,48]) (.seq (.draw (.take (mv 49 (t 8)) (.take (mv 50 (t 1)) (.take (fa 53 2 (t 2)) (.take (la 54 5 (t 53)) (.alt (o 51 (.mkSl true 5 1 [(u 0)] [(0,1,(t 50))])) false (.alt (o 52 (.app 5 1 1 [(u 0)] (t 49) (t 51))) true (.take (o 55 (.build [(.bool false),sn,(i 0),(i 0),(i 0),(i 0),(i 0)] [(1,1,(t 52)),(2,5,(t 54))])) (.alt (st 7 (t 4) (t 55)) false (.take (mv 5 (.const sn)) (.done)) (.none))) (.none)) (.none)))))) [1,2,8,49,50,51,52,53,54,55]) (.ret))))))
def zB7:List zd:=[.cell true 7 4,.tmp 5]
theorem zAA {args:List Value} {M:Mem} {R:Value→Mem→Prop} (hn:args.length≤56) (h:zi Tryz.prog zB6 zB7 args M R):CallsM Tryz.prog F.zf1 args M R:=zf (kf:=zB5) Tryz.func36 (by kernel_rfl) (by kernel_rfl) hn (by kernel_rfl) h
def zsN (i:Nat):List Nat:=match i with|0=>[4]|1=>[9]|3=>[11,12]|4=>[1]|6=>[17,18]|7=>[7,19,20,21]|8=>[22]|9=>[23,24,25,26]|10=>[0,27,28,29]|11=>[8,30]|_=>[]
def zsO:RCode := .seq (.ops [mv 4 (.const sn)] [4]) (.seq (.seq (.ops [mv 9 (t 0),o 10 (.pnil .eql (t 9) (.const (.pointer none)))] [9]) (.cond (t 10) (.seq (.ops [mv 4 (.const sn)] []) (.ret)) (.skip))) (.seq (.ops [mv 11 (t 0),o 12 (.mval F.zbe (t 11)),mv 5 (t 12)] [11,12]) (.seq (.seq (.ops [mv 13 (t 1),o 14 (.len (t 13)),mv 15 (k 0)] [1]) (.block 0 (.loop (.seq (.ops [o 16 (.ibin .lss (t 15) (t 14))] []) (.seq (.cond (t 16) (.skip) (.exit 0)) (.seq (.block 1 (.seq (.ops [o 17 (.iaddr 1 (t 13) (t 15)),l1 18 (t 17),mv 7 (t 18)] [17,18]) (.ops [mv 19 (t 5),mv 20 (t 7),o 21 (.call (t 19) [(t 20)])] [7,19,20,21]))) (.ops [ad 22 (t 15) (k 1),mv 15 (t 22)] [22]))))))) (.seq (.ops [mv 23 (t 0),o 24 (.nilck (t 23)),fa 25 7 (t 24),l1 26 (t 25),mv 8 (t 26)] [23,24,25,26]) (.seq (.ops [mv 27 (t 0),o 28 (.nilck (t 27)),fa 29 7 (t 28),st 1 (t 29) (.const sn)] [0,27,28,29]) (.seq (.ops [mv 30 (t 8),mv 4 (t 30)] [8,30]) (.ret)))))))
def zsP:List zd:=[.tmp 4]
theorem zr3 {args:List Value} {M:Mem} {R:Value→Mem→Prop} (hn:args.length≤31) (h:zi Tryz.prog zsO zsP args M R):CallsM Tryz.prog F.zbd args M R:=zf (kf:=zsN) Tryz.func38 (by kernel_rfl) (by kernel_rfl) hn (by kernel_rfl) h
def zJg (i:Nat):List Nat:=match i with|0=>[4]|1=>[1,8,9,10]|4=>[15,16]|5=>[7,17,18,19,20,21]|6=>[22]|7=>[5,23,24]|_=>[]
def zB8 (i:Nat):List Nat:=match i with|0=>[2,3]|1=>[0,6,7,8,9,10]|2=>[5,11]|4=>[13,14]|6=>[16,17]|8=>[19,20,21]|10=>[4,23,24,25,26,27]|_=>[]
def zB9:RCode := .seq (.ops [mv 2 (k 0),mv 3 (.const sn)] [2,3]) (.seq (.ops [mv 7 (t 0),ca 8 F.zhS [(t 7)],mv 6 (t 8),ex 9 (t 6) 0,ex 10 (t 6) 1,mv 4 (t 9),mv 5 (t 10)] [0,6,7,8,9,10]) (.seq (.seq (.ops [mv 11 (t 5),o 12 (.ibin .neq (t 11) (k 0))] [5,11]) (.cond (t 12) (.seq (.ops [mv 2 (k 1),mv 3 (.const sn)] []) (.ret)) (.skip))) (.seq (.seq (.ops [mv 13 (t 4),o 14 (.len (t 13)),o 15 (.ibin .lss (t 14) (k 3))] [13,14]) (.cond (t 15) (.seq (.ops [mv 2 (k 2),mv 3 (.const sn)] []) (.ret)) (.skip))) (.seq (.seq (.ops [mv 16 (t 4),ca 17 F.zkG [(t 16)],o 18 (.not (t 17))] [16,17]) (.cond (t 18) (.seq (.ops [mv 2 (k 3),mv 3 (.const sn)] []) (.ret)) (.skip))) (.seq (.seq (.ops [mv 19 (t 4),o 20 (.len (t 19)),o 21 (.ibin .sub (t 20) (k 2)),o 22 (.ibin .gtr (t 21) (k 128))] [19,20,21]) (.cond (t 22) (.seq (.ops [mv 2 (k 4),mv 3 (.const sn)] []) (.ret)) (.skip))) (.seq (.draw (.take (mv 23 (t 4)) (.take (mv 24 (t 4)) (.take (o 25 (.len (t 24))) (.take (o 26 (.ibin .sub (t 25) (k 2))) (.take (o 27 (.slx 1 (t 23) none (some (t 26)))) (.take (mv 2 (k 0)) (.take (mv 3 (t 27)) (.done)))))))) [4,23,24,25,26,27]) (.ret)))))))
def zCa:List zd:=[.tmp 2,.tmp 3]
theorem zAB {args:List Value} {M:Mem} {R:Value→Mem→Prop} (hn:args.length≤28) (h:zi Tryz.prog zB9 zCa args M R):CallsM Tryz.prog F.zma args M R:=zf (kf:=zB8) Tryz.func73 (by kernel_rfl) (by kernel_rfl) hn (by kernel_rfl) h
def zAC (i:Nat):List Nat:=match i with|0=>[0]|1=>[1]|2=>[7]|3=>[8,9,10,11]|4=>[13]|5=>[14,15,16,17]|6=>[19]|7=>[20,21,22,23]|8=>[25]|9=>[26,27,28,29]|10=>[5,31]|11=>[32,33,34,35]|12=>[2,36]|_=>[]
def zAD:RCode := .seq (.ops [o 2 (.box 42 (t 0)),o 4 (.alloc 42 [(i 0),(i 0),(i 0),(i 0),(i 0)])] [0]) (.seq (.seq (.ops [mv 5 (t 1)] [1]) (.block 0 (.seq (.ops [o 7 (.ibin .eql (t 5) (k 0)),mv 6 (t 7)] [7]) (.cond (t 6) (.ops [fa 8 0 (t 2),l1 9 (t 8),ad 10 (t 9) (k 1),fa 11 0 (t 2),st 1 (t 11) (t 10)] [8,9,10,11]) (.seq (.ops [o 13 (.ibin .eql (t 5) (k 1)),mv 12 (t 13)] [13]) (.cond (t 12) (.ops [fa 14 4 (t 2),l1 15 (t 14),ad 16 (t 15) (k 1),fa 17 4 (t 2),st 1 (t 17) (t 16)] [14,15,16,17]) (.seq (.ops [o 19 (.ibin .eql (t 5) (k 2)),mv 18 (t 19)] [19]) (.cond (t 18) (.ops [fa 20 2 (t 2),l1 21 (t 20),ad 22 (t 21) (k 1),fa 23 2 (t 2),st 1 (t 23) (t 22)] [20,21,22,23]) (.seq (.ops [o 25 (.ibin .eql (t 5) (k 3)),mv 24 (t 25)] [25]) (.cond (t 24) (.ops [fa 26 1 (t 2),l1 27 (t 26),ad 28 (t 27) (k 1),fa 29 1 (t 2),st 1 (t 29) (t 28)] [26,27,28,29]) (.seq (.ops [o 31 (.ibin .eql (t 5) (k 4)),mv 30 (t 31)] [5,31]) (.cond (t 30) (.ops [fa 32 3 (t 2),l1 33 (t 32),ad 34 (t 33) (k 1),fa 35 3 (t 2),st 1 (t 35) (t 34)] [32,33,34,35]) (.skip))))))))))))) (.seq (.ops [la 36 5 (t 2),st 5 (t 4) (t 36)] [2,36]) (.ret)))
def zAE:List zd:=[.cell true 5 4]
theorem zy9 {args:List Value} {M:Mem} {R:Value→Mem→Prop} (hn:args.length≤37) (h:zi Tryz.prog zAD zAE args M R):CallsM Tryz.prog F.zev args M R:=zf (kf:=zAC) Tryz.func74 (by kernel_rfl) (by kernel_rfl) hn (by kernel_rfl) h
def zsQ (i:Nat):List Nat:=match i with|1=>[15,16]|2=>[17,18,19,20,21,22,23,24,25,26,27,28]|3=>[30,31]|4=>[0,32,33,34,35,36,37]|5=>[39,40,41,42]|6=>[44,45,46,47,48,49]|7=>[50,51,52,53,54,55,56,57,58]|8=>[0,59,60,61,62,63,64]|0=>[0,1,4,5,6,7,8,9,10,11,12,13]|_=>[]
def zsR:RCode := .block 0 (.seq (.ops [mv 15 (t 1),o 16 (.ibin .eql (t 15) (.const (u 126))),mv 14 (t 16)] [15,16]) (.cond (t 14) (.seq (.seq (.ops [mv 17 (t 0),o 18 (.nilck (t 17)),fa 19 0 (t 18),l1 20 (t 19),o 21 (.not (t 20)),os 22 (.mov (t 21)),gt 22 23 (.mov (t 0)),gt 22 24 (.nilck (t 23)),gt 22 25 (.faddr 1 (t 24)),gt 22 26 (.load false 1 (t 25)),gt 22 27 (.len (t 26)),gt 22 28 (.ibin .gtr (t 27) (k 0)),o 29 (.pick (t 22) (t 28) (kb false))] [17,18,19,20,21,22,23,24,25,26,27,28]) (.cond (t 29) (.ops [mv 30 (t 0),ca 31 F.zbk [(t 30)]] [30,31]) (.skip))) (.ops [mv 32 (t 0),mv 33 (t 0),o 34 (.nilck (t 32)),fa 35 0 (t 34),st 1 (t 35) (kb false),o 36 (.nilck (t 33)),fa 37 1 (t 36),st 1 (t 37) (.const sn)] [0,32,33,34,35,36,37])) (.seq (.ops [mv 39 (t 0),o 40 (.nilck (t 39)),fa 41 0 (t 40),l1 42 (t 41),mv 38 (t 42)] [39,40,41,42]) (.cond (t 38) (.skip) (.seq (.ops [mv 44 (t 0),o 45 (.nilck (t 44)),fa 46 1 (t 45),l1 47 (t 46),o 48 (.len (t 47)),o 49 (.ibin .eql (t 48) (k 260)),mv 43 (t 49)] [44,45,46,47,48,49]) (.cond (t 43) (.seq (.ops [mv 50 (t 0),o 51 (.nilck (t 50)),fa 52 2 (t 51),fa 53 3 (t 52),l1 54 (t 53),ad 55 (t 54) (k 1),o 56 (.nilck (t 50)),fa 57 2 (t 56),fa 58 3 (t 57),st 1 (t 58) (t 55)] [50,51,52,53,54,55,56,57,58]) (.ops [mv 59 (t 0),mv 60 (t 0),o 61 (.nilck (t 59)),fa 62 0 (t 61),st 1 (t 62) (kb true),o 63 (.nilck (t 60)),fa 64 1 (t 63),st 1 (t 64) (.const sn)] [0,59,60,61,62,63,64])) (.ops [mv 4 (t 0),mv 5 (t 0),o 6 (.nilck (t 5)),fa 7 1 (t 6),l1 8 (t 7),mv 9 (t 1),o 10 (.mkSl true 5 1 [(u 0)] [(0,1,(t 9))]),o 11 (.app 5 1 1 [(u 0)] (t 8) (t 10)),o 12 (.nilck (t 4)),fa 13 1 (t 12),st 1 (t 13) (t 11)] [0,1,4,5,6,7,8,9,10,11,12,13])))))))
def zsS:List zd:=[]
theorem zr4 {args:List Value} {M:Mem} {R:Value→Mem→Prop} (hn:args.length≤65) (h:zi Tryz.prog zsR zsS args M R):CallsM Tryz.prog F.zbe args M R:=zf (kf:=zsQ) Tryz.func76 (by kernel_rfl) (by kernel_rfl) hn (by kernel_rfl) h
def zre (i:Nat):List Nat:=match i with|0=>[2]|1=>[5]|4=>[0,7,8,9,10,11,12,13,14]|5=>[16]|6=>[4,17,18,19,20]|7=>[3,21]|_=>[]
def zrf:RCode := .seq (.ops [mv 2 (.const sn)] [2]) (.seq (.seq (.ops [mv 5 (t 0),o 6 (.pnil .eql (t 5) (.const (.pointer none)))] [5]) (.cond (t 6) (.seq (.ops [mv 2 (.const sn)] []) (.ret)) (.skip))) (.seq (.ops [o 3 (.alloc 84 [sn])] []) (.seq (.seq (.draw (.take (mv 7 (t 0)) (.take (o 8 (.nilck (t 7))) (.take (fa 9 1 (t 8)) (.take (l1 10 (t 9)) (.take (mv 11 (t 0)) (.take (o 12 (.nilck (t 11))) (.take (fa 13 3 (t 12)) (.take (l1 14 (t 13)) (.alt (ca 15 F.zc2 [(t 10),(t 14)]) false (.done) (.none)))))))))) [0,7,8,9,10,11,12,13,14]) (.block 0 (.rfun ((t 15)) [16] (.ops [mv 4 (t 16)] [16]) (.block 1 (.ops [l1 17 (t 3),mv 18 (t 4),o 19 (.mkSl true 3 1 [(i 0)] [(0,1,(t 18))]),o 20 (.app 3 1 8 [(i 0)] (t 17) (t 19)),st 1 (t 3) (t 20)] [4,17,18,19,20]))))) (.seq (.ops [l1 21 (t 3),mv 2 (t 21)] [3,21]) (.ret)))))
def zrg:List zd:=[.tmp 2]
theorem zks {args:List Value} {M:Mem} {R:Value→Mem→Prop} (hn:args.length≤22) (h:zi Tryz.prog zrf zrg args M R):CallsM Tryz.prog F.zaR args M R:=zf (kf:=zre) Tryz.func94 (by kernel_rfl) (by kernel_rfl) hn (by kernel_rfl) h
end Go.Proofs.YtdogcflaekkdkaaGreat
