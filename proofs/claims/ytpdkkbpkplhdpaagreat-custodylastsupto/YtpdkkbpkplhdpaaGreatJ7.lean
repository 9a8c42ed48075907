/- Part of this proof;laid by program. -/
import Derived.Test.YtpdkkbpkplhdpaaGreatJ6
import Derived.Test.YtpdkkbpkplhdpaaGreatRows
import Derived.WalkKit
import Derived.ProofKit
import Derived.OpenShut
import Derived.JoinedCond
set_option linter.unusedVariables false
set_option linter.unusedSimpArgs false
namespace Go.Vm
theorem Mem.row_upd_ne {M:Mem} {b c:Nat} {x:Obj} (h:c≠b) (o n:Nat):(M.upd b x).row c o n=M.row c o n:=by simp[Mem.row,Mem.upd,h]
theorem Mem.row_cells {M:Mem} {b:Nat} {E:TypeId} {l:List Value} {o n:Nat} (h:o+n≤l.length):(M.setCells b E l).row b o n=some ((l.drop o).take n):=by
 simp[Mem.row,Mem.setCells,Mem.upd,h]
theorem Mem.cells_setCells {M:Mem} {b:Nat} {E:TypeId} {l:List Value}:(M.setCells b E l).cells b=some (E,l):=by simp[Mem.cells,Mem.setCells,Mem.upd]
theorem Mem.le_upd {M:Mem} {b:Nat} {x:Obj} (h:M b=none):M.le (M.upd b x):=fun c o hc=>by
 have hne:c≠b:=fun e=>by subst e;rw[h] at hc;cases hc
 simpa[Mem.upd,hne] using hc
theorem Mem.upd_upd (M:Mem) (b:Nat) (x y:Obj):(M.upd b x).upd b y=M.upd b y:=by funext c;simp only[Mem.upd];split<;>rfl
theorem Mem.setCells_setCells (M:Mem) (b:Nat) (E E':TypeId) (l l':List Value):(M.setCells b E l).setCells b E' l'=M.setCells b E' l':=Mem.upd_upd ..
def Mem.has (M:Mem) (b:Nat) (E:TypeId) (l:List Value):Prop:=M b=some (.cells l.toArray E (0,0))
theorem Mem.has.cells {M:Mem} {b:Nat} {E:TypeId} {l:List Value} (h:M.has b E l):M.cells b=some (E,l):=by unfold Mem.has at h;simp[Mem.cells,h]
theorem Mem.has.row {M:Mem} {b:Nat} {E:TypeId} {l:List Value} (h:M.has b E l) {o n:Nat} (hn:o+n≤l.length):M.row b o n=some ((l.drop o).take n):=by unfold Mem.has at h;simp[Mem.row,h,hn]
theorem Mem.has.le {A M:Mem} (hle:A.le M) {b:Nat} {E:TypeId} {l:List Value} (h:A.has b E l):M.has b E l:=hle _ _ h
theorem Mem.has_setCells {M:Mem} {b:Nat} {E:TypeId} {l:List Value}:(M.setCells b E l).has b E l:=by simp[Mem.has,Mem.setCells,Mem.upd]
def NewSl (M:Mem) (E:TypeId) (size:Nat) (a:Option Addr) (n c:Nat) (L:List Value) (M':Mem):Prop:=∃ M0,M.le M0∧Own M0 E size a n c L M'
theorem Own.new {M:Mem} {E:TypeId} {size:Nat} {a:Option Addr} {n c:Nat} {L:List Value} {M':Mem} (h:Own M E size a n c L M'):NewSl M E size a n c L M':=⟨M,Mem.le_refl _,h⟩
theorem NewSl.none (M:Mem) (E:TypeId) (size:Nat):NewSl M E size none 0 0 [] M:=(Own.none M E size).new
theorem NewSl.lit {M:Mem} {b:Nat} (h:M b=Option.none) (E:TypeId) (size n:Nat) (L:List Value) (hl:L.length=n*size):NewSl M E size (some ⟨b,0,Option.none⟩) n n L (M.setCells b E L):=(Own.lit h E size n L hl).new
theorem NewSl.le {M:Mem} {E:TypeId} {size:Nat} {a:Option Addr} {n c:Nat} {L:List Value} {M':Mem} (h:NewSl M E size a n c L M'):M.le M':=by
 obtain⟨M0,h0,h1⟩:=h;exact Mem.le_trans h0 h1.base
theorem NewSl.src {M:Mem} {E:TypeId} {size:Nat} {a:Option Addr} {n c:Nat} {L:List Value} {M':Mem} (h:NewSl M E size a n c L M'):SrcOk M' size a n L:=by
 obtain⟨M0,h0,h1⟩:=h;exact h1.src
theorem NewSl.mono {A M:Mem} {E:TypeId} {size:Nat} {a:Option Addr} {n c:Nat} {L:List Value} {M':Mem} (h:NewSl M E size a n c L M') (hA:A.le M):NewSl A E size a n c L M':=by
 obtain⟨M0,h0,h1⟩:=h;exact⟨M0,Mem.le_trans hA h0,h1⟩
theorem ze6 {E:TypeId} {size bytes:Nat} {a:Option Addr} {n c m:Nat} {news:List Value} {M:Mem} {k:Option Addr→Nat→Mem→Prop} (M0:Mem) (L:List Value) (hown:NewSl M0 E size a n c L M)
  (h1:(n+m)*bytes≤140737488355328) (h2:n+m≤maxLen) (h3:∀ u∈news,u.oneCell'=true) (hk:∀ a' c' M',NewSl M0 E size a' (n+m) c' (L++news) M'→k a' c' M'):zaD E size bytes a n c m news M k:=by
 obtain⟨M1,h0,h⟩:=hown;exact app M1 L h h1 h2 h3 fun a' c' M' ho=>hk a' c' M' ⟨M1,h0,ho⟩
theorem SrcOk.nil (M:Mem) (size:Nat):SrcOk M size none 0 []:=⟨by simp,.inl rfl⟩
theorem SrcOk.len {M:Mem} {size:Nat} {a:Option Addr} {n:Nat} {l:List Value} (h:SrcOk M size a n l):l.length=n*size:=h.1
theorem SrcOk.upd {M:Mem} {size:Nat} {a:Option Addr} {n:Nat} {l:List Value} (h:SrcOk M size a n l) {b:Nat} {x:Obj} (hb:∀ p,a=some p→p.block≠b):SrcOk (M.upd b x) size a n l:=by
 obtain⟨hl,h1|⟨c,o,ha,h2⟩⟩:=h
 ·exact⟨hl,.inl h1⟩
 ·have:=hb _ ha;exact⟨hl,.inr ⟨c,o,ha,by rw[Mem.row_upd_ne this];exact h2⟩⟩
def Mem.keep (S:Nat→Prop) (M M':Mem):Prop:=∀ b o,¬S b→M b=some o→M' b=some o
theorem Mem.keep_refl (S:Nat→Prop) (M:Mem):Mem.keep S M M:=fun _ _ _ h=>h
theorem Mem.keep_of_le {S:Nat→Prop} {M M':Mem} (h:M.le M'):Mem.keep S M M':=fun b o _ hb=>h b o hb
theorem Mem.keep_trans {S:Nat→Prop} {A B C:Mem} (h:Mem.keep S A B) (h':Mem.keep S B C):Mem.keep S A C:=fun b o hn hb=>h' b o hn (h b o hn hb)
theorem Mem.keep_mono {S T:Nat→Prop} {A B:Mem} (h:Mem.keep S A B) (hST:∀ b,S b→T b):Mem.keep T A B:=fun b o hn hb=>h b o (fun h=>hn (hST b h)) hb
theorem Mem.keep_upd {S:Nat→Prop} (M:Mem) {b:Nat} (x:Obj) (hb:S b):Mem.keep S M (M.upd b x):=fun c o hn hc=>by
 have hne:c≠b:=fun e=>by subst e;exact hn hb
 simpa[Mem.upd,hne] using hc
theorem Mem.keep.le {S:Nat→Prop} {M0 M M':Mem} (h:Mem.keep S M M') (h0:M0.le M) (hS:∀ b,S b→M0 b=none):M0.le M':=fun b o hb=>h b o (fun hs=>by rw[hS b hs] at hb;cases hb) (h0 b o hb)
end Go.Vm
namespace Go.Vm
theorem SrcOk.at {α:Type} {M:Mem} {a:Option Addr} {n:Nat} {l:List α} {f:α→Value} (h:SrcOk M 1 a n (l.map f)) {i:Nat} (hi:i<n) :
  ∃ (hl:i<l.length) (b o:Nat),a=some ⟨b,o,Option.none⟩∧M.row b (o+i*1) 1=some [f l[i]]:=by
 have hl:l.length=n:=by simpa using h.1
 obtain⟨b,o,h1,h2⟩:=h.get (j:=i) (v:=f (l[i]'(by omega))) (by simp[List.getElem?_eq_getElem (show i<l.length by omega)]);exact⟨by omega,b,o,h1,h2⟩
theorem SrcOk.maplen {α:Type} {M:Mem} {a:Option Addr} {n:Nat} {l:List α} {f:α→Value} (h:SrcOk M 1 a n (l.map f)):l.length=n:=by simpa using h.1
end Go.Vm
namespace Go.Vm
theorem newSl_iff {M:Mem} {E:TypeId} {s:Nat} {a:Option Addr} {n c:Nat} {L:List Value} {M':Mem} :
  NewSl M E s a n c L M'↔M.le M'∧L.length=n*s∧n≤c∧((a=Option.none∧c=0)∨∃ b cs,a=some ⟨b,0,Option.none⟩∧M b=Option.none∧M'.has b E cs∧cs.length=c*s∧cs.take (n*s)=L):=by
 constructor
 ·intro h;refine⟨h.le,?_⟩;obtain⟨M0,h0,h1,h2,h3⟩:=h;refine⟨h1,h2,?_⟩;rcases h3 with ⟨ha,hc,_⟩|⟨b,cs,ha,hb,rfl,hl,ht⟩
  ·exact .inl ⟨ha,hc⟩
  ·refine .inr ⟨b,cs,ha,?_,Mem.has_setCells,hl,ht⟩;cases hx:M b with
   | none=>rfl
   | some x=>rw[h0 b x hx] at hb;cases hb
 ·rintro ⟨hle,h1,h2,⟨ha,hc⟩|⟨b,cs,ha,hb,hh,hl,ht⟩⟩
  ·exact⟨M',hle,h1,h2,.inl ⟨ha,hc,rfl⟩⟩
  ·refine⟨fun x=>if x=b then none else M' x,fun x o hx=>?_,h1,h2,.inr ⟨b,cs,ha,by simp,?_,hl,ht⟩⟩
   ·have hne:x≠b:=fun e=>by subst e;rw[hb] at hx;cases hx
    simp only[if_neg hne];exact hle x o hx
   ·funext x;simp only[Mem.setCells,Mem.upd];split
    ·rename_i e;subst e;exact hh
    ·rfl
theorem NewSl.up {M:Mem} {E:TypeId} {s:Nat} {a:Option Addr} {n c:Nat} {L:List Value} {M1 M2:Mem} (h:NewSl M E s a n c L M1) (hle:M1.le M2):NewSl M E s a n c L M2:=by
 rw[newSl_iff] at h ⊢;obtain⟨h0,h1,h2,h3⟩:=h;exact⟨Mem.le_trans h0 hle,h1,h2,h3.imp id fun ⟨b,cs,ha,hb,hh,hr⟩=>⟨b,cs,ha,hb,hle _ _ hh,hr⟩⟩
theorem NewSl.keep {M:Mem} {E:TypeId} {s:Nat} {a:Option Addr} {n c:Nat} {L:List Value} {M1 M2:Mem} {S:Nat→Prop} (h:NewSl M E s a n c L M1) (hk:Mem.keep S M1 M2) (hS:∀ b,S b→M b=Option.none) (ha:∀ p,a=some p→¬S p.block):NewSl M E s a n c L M2:=by
 rw[newSl_iff] at h ⊢;obtain⟨h0,h1,h2,h3⟩:=h;exact⟨hk.le h0 hS,h1,h2,h3.imp id fun ⟨b,cs,hab,hb,hh,hr⟩=>⟨b,cs,hab,hb,hk _ _ (ha _ hab) hh,hr⟩⟩
end Go.Vm
namespace Go.Vm
def Mem.empty:Mem:=fun _=>none
theorem Mem.empty_le (M:Mem):Mem.empty.le M:=fun _ _ h=>by cases h
end Go.Vm
namespace Go.Vm
theorem Mem.has.c1 {M:Mem} {b:Nat} {E:TypeId} {l:List Value} (h:M.has b E l) {o:Nat} {v:Value} (hv:l[o]? = some v):M.row b o 1=some [v]:=by
 have hl:=(List.getElem?_eq_some_iff.1 hv).1;rw[h.row (by omega),List.drop_eq_getElem_cons hl];have:=(List.getElem?_eq_some_iff.1 hv).2
 simp[this]
end Go.Vm
namespace Go.Vm
theorem NewSl.block {M:Mem} {E:TypeId} {s:Nat} {a:Option Addr} {n c:Nat} {L:List Value} {M':Mem} (h:NewSl M E s a n c L M') {q:Addr} (ha:a=some q):M q.block=Option.none∧∃ cs,M'.has q.block E cs:=by
 rw[newSl_iff] at h;obtain⟨_,_,_,⟨h3,_⟩|⟨b,cs,hab,hb,hh,_⟩⟩:=h
 ·rw[h3] at ha;cases ha
 ·rw[hab] at ha;cases ha;exact⟨hb,cs,hh⟩
theorem Mem.has.inj {M:Mem} {b:Nat} {E E':TypeId} {l l':List Value} (h:M.has b E l) (h':M.has b E' l'):E=E'∧l=l':=by
 unfold Mem.has at h h';rw[h] at h';simp at h';exact⟨h'.2,h'.1⟩
def Wr (M:Mem) (E:TypeId) (s:Nat) (a:Option Addr) (n c:Nat) (L:List Value):Prop:=
 L.length=n*s∧n≤c∧((a=Option.none∧c=0)∨∃ b cs,a=some ⟨b,0,Option.none⟩∧M.has b E cs∧cs.length=c*s∧cs.take (n*s)=L)
theorem NewSl.wr {M:Mem} {E:TypeId} {s:Nat} {a:Option Addr} {n c:Nat} {L:List Value} {M':Mem} (h:NewSl M E s a n c L M'):Wr M' E s a n c L:=by
 rw[newSl_iff] at h;obtain⟨_,h1,h2,h3⟩:=h;exact⟨h1,h2,h3.imp id fun ⟨b,cs,ha,_,hr⟩=>⟨b,cs,ha,hr⟩⟩
theorem Wr.mono {M M':Mem} {E:TypeId} {s:Nat} {a:Option Addr} {n c:Nat} {L:List Value} (h:Wr M E s a n c L) (hk:∀ p o,a=some p→M p.block=some o→M' p.block=some o):Wr M' E s a n c L:=by
 obtain⟨h1,h2,h3⟩:=h;exact⟨h1,h2,h3.imp id fun ⟨b,cs,ha,hh,hr⟩=>⟨b,cs,ha,hk _ _ ha hh,hr⟩⟩
theorem Wr.le {M M':Mem} {E:TypeId} {s:Nat} {a:Option Addr} {n c:Nat} {L:List Value} (h:Wr M E s a n c L) (hle:M.le M'):Wr M' E s a n c L:=h.mono fun _ _ _=>hle _ _
theorem Wr.src {M:Mem} {E:TypeId} {s:Nat} {a:Option Addr} {n c:Nat} {L:List Value} (h:Wr M E s a n c L):SrcOk M s a n L:=by
 obtain⟨h1,h2,⟨ha,hc⟩|⟨b,cs,ha,hh,hl,ht⟩⟩:=h
 ·refine⟨h1,.inl ?_⟩;have:n=0:=by omega
  subst this;simpa using h1
 ·refine⟨h1,.inr ⟨b,0,ha,?_⟩⟩;have:n*s≤c*s:=Nat.mul_le_mul_right _ h2
  rw[hh.row (by omega)];simp[ht]
def Elems {α:Type} (M:Mem) (s:Nat) (a:Option Addr) (n:Nat) (R:List Value→α→Prop) (l:List α):Prop:=
 ∃ css:List (List Value),SrcOk M s a n css.flatten∧css.length=n∧l.length=n∧(∀ cs∈css,cs.length=s)∧∀ (i:Nat) cs x,css[i]? = some cs→l[i]? = some x→R cs x
theorem Elems.len {α:Type} {M:Mem} {s:Nat} {a:Option Addr} {n:Nat} {R:List Value→α→Prop} {l:List α} (h:Elems M s a n R l):l.length=n:=by
 obtain⟨_,_,_,h,_⟩:=h;exact h
theorem Elems.imp {α:Type} {M M':Mem} {s:Nat} {a:Option Addr} {n:Nat} {R R':List Value→α→Prop} {l:List α} (h:Elems M s a n R l) (hle:M.le M') (hR:∀ cs x,x∈l→R cs x→R' cs x):Elems M' s a n R' l:=by
 obtain⟨css,h1,h2,h3,h4,h5⟩:=h;exact⟨css,h1.le hle,h2,h3,h4,fun i cs x hi hx=>hR _ _ (List.mem_of_getElem? hx) (h5 i cs x hi hx)⟩
theorem zil {α:Type} {s:Nat}:∀ {css:List (List α)} (_:∀ cs∈css,cs.length=s) {i:Nat} {cs:List α} (_:css[i]? = some cs),(css.flatten.drop (i*s)).take s=cs
 | [],_,i,cs,hi=>by simp at hi
 | c::r,h,0,cs,hi=>by
  simp at hi;subst hi;have:c.length=s:=h c (by simp)
  simp[←this]
 | c::r,h,i+1,cs,hi=>by
  have hc:c.length=s:=h c (by simp);simp only[List.flatten_cons];rw[Nat.succ_mul,Nat.add_comm,←List.drop_drop,show (c++r.flatten).drop s=r.flatten by rw[←hc];simp];exact zil (fun cs hcs=>h cs (List.mem_cons_of_mem _ hcs)) (by simpa using hi)
theorem Elems.at {α:Type} {M:Mem} {s:Nat} {a:Option Addr} {n:Nat} {R:List Value→α→Prop} {l:List α} (h:Elems M s a n R l) (hs:0<s) {i:Nat} (hi:i<n) :
  ∃ (hl:i<l.length) (b o:Nat) (cs:List Value),a=some ⟨b,o,Option.none⟩∧(∀ p m,p+m≤s→M.row b (o+i*s+p) m=some ((cs.drop p).take m))∧M.row b (o+i*s) s=some cs∧cs.length=s∧R cs l[i]:=by
 obtain⟨css,h1,h2,h3,h4,h5⟩:=h;obtain⟨b,o,ha,hr⟩:=h1.elem hi hs;have hcs:css[i]? = some (css[i]'(by omega)):=List.getElem?_eq_getElem (by omega)
 have hlen:(css[i]'(by omega)).length=s:=h4 _ (List.getElem_mem _)
 have key:∀ p m,p+m≤s→M.row b (o+i*s+p) m=some (((css[i]'(by omega)).drop p).take m):=by
  intro p m hpm;rw[hr p m hpm,←zil h4 hcs,List.drop_take,List.drop_drop,List.take_take];congr 2;omega
 refine⟨by omega,b,o,css[i]'(by omega),ha,key,?_,hlen,h5 i _ _ hcs (List.getElem?_eq_getElem (by omega))⟩;have:=key 0 s (by omega)
 rw[Nat.add_zero] at this;rw[this,List.drop_zero,List.take_of_length_le (by omega)]
theorem Elems.nil {α:Type} (M:Mem) (s:Nat) (R:List Value→α→Prop):Elems M s Option.none 0 R []:=⟨[],SrcOk.nil M s,rfl,rfl,by simp,by simp⟩
def NewEls {α:Type} (M:Mem) (E:TypeId) (s:Nat) (a:Option Addr) (n c:Nat) (R:List Value→α→Prop) (l:List α) (M':Mem):Prop:=
 ∃ css:List (List Value),NewSl M E s a n c css.flatten M'∧css.length=n∧l.length=n∧(∀ cs∈css,cs.length=s)∧∀ (i:Nat) cs x,css[i]? = some cs→l[i]? = some x→R cs x
theorem NewEls.elems {α:Type} {M:Mem} {E:TypeId} {s:Nat} {a:Option Addr} {n c:Nat} {R:List Value→α→Prop} {l:List α} {M':Mem} (h:NewEls M E s a n c R l M'):Elems M' s a n R l:=by
 obtain⟨css,h1,hr⟩:=h;exact⟨css,h1.src,hr⟩
theorem NewEls.le {α:Type} {M:Mem} {E:TypeId} {s:Nat} {a:Option Addr} {n c:Nat} {R:List Value→α→Prop} {l:List α} {M':Mem} (h:NewEls M E s a n c R l M'):M.le M':=by
 obtain⟨css,h1,hr⟩:=h;exact h1.le
theorem NewEls.len {α:Type} {M:Mem} {E:TypeId} {s:Nat} {a:Option Addr} {n c:Nat} {R:List Value→α→Prop} {l:List α} {M':Mem} (h:NewEls M E s a n c R l M'):l.length=n:=h.elems.len
theorem NewEls.block {α:Type} {M:Mem} {E:TypeId} {s:Nat} {a:Option Addr} {n c:Nat} {R:List Value→α→Prop} {l:List α} {M':Mem} (h:NewEls M E s a n c R l M') {q:Addr} (ha:a=some q):M q.block=Option.none∧∃ cs,M'.has q.block E cs:=by
 obtain⟨css,h1,_⟩:=h;exact h1.block ha
theorem NewEls.nil {α:Type} (M:Mem) (E:TypeId) (s:Nat) (R:List Value→α→Prop):NewEls M E s Option.none 0 0 R [] M:=⟨[],NewSl.none M E s,rfl,rfl,by simp,by simp⟩
theorem NewEls.imp {α:Type} {M:Mem} {E:TypeId} {s:Nat} {a:Option Addr} {n c:Nat} {R R':List Value→α→Prop} {l:List α} {M':Mem} (h:NewEls M E s a n c R l M') (hR:∀ cs x,x∈l→R cs x→R' cs x):NewEls M E s a n c R' l M':=by
 obtain⟨css,h1,h2,h3,h4,h5⟩:=h;exact⟨css,h1,h2,h3,h4,fun i cs x hi hx=>hR _ _ (List.mem_of_getElem? hx) (h5 i cs x hi hx)⟩
theorem NewEls.up {α:Type} {M:Mem} {E:TypeId} {s:Nat} {a:Option Addr} {n c:Nat} {R:List Value→α→Prop} {l:List α} {M1 M2:Mem} (h:NewEls M E s a n c R l M1) (hle:M1.le M2):NewEls M E s a n c R l M2:=by
 obtain⟨css,h1,hr⟩:=h;exact⟨css,h1.up hle,hr⟩
theorem NewEls.mono {α:Type} {A M:Mem} {E:TypeId} {s:Nat} {a:Option Addr} {n c:Nat} {R:List Value→α→Prop} {l:List α} {M':Mem} (h:NewEls M E s a n c R l M') (hA:A.le M):NewEls A E s a n c R l M':=by
 obtain⟨css,h1,hr⟩:=h;exact⟨css,h1.mono hA,hr⟩
def z6 (a:Option Addr):Nat→Prop:=fun x=>∃ q,a=some q∧q.block=x
theorem zge {E:TypeId} {size bytes:Nat} {a:Option Addr} {n c m:Nat} {news:List Value} {M:Mem} {k:Option Addr→Nat→Mem→Prop} (M0:Mem) (L:List Value) (hown:NewSl M0 E size a n c L M)
  (h1:(n+m)*bytes≤140737488355328) (h2:n+m≤maxLen) (h3:∀ u∈news,u.oneCell'=true) (hk:∀ a' c' M',NewSl M0 E size a' (n+m) c' (L++news) M'→Mem.keep (z6 a) M M'→k a' c' M'):zaD E size bytes a n c m news M k:=by
 rw[newSl_iff] at hown;obtain⟨h0,h4,h5,⟨ha,hc⟩|⟨b,cs,ha,hb,hh,hl,ht⟩⟩:=hown
 ·refine app M L ⟨h4,h5,.inl ⟨ha,hc,rfl⟩⟩ h1 h2 h3 fun a' c' M' ho=>hk a' c' M' ⟨M,h0,ho⟩ (Mem.keep_of_le ho.base)
 ·refine app (fun x=>if x=b then Option.none else M x) L ⟨h4,h5,.inr ⟨b,cs,ha,by simp,?_,hl,ht⟩⟩ h1 h2 h3 fun a' c' M' ho=>hk a' c' M' ⟨_,?_,ho⟩ ?_
  ·funext x;simp only[Mem.setCells,Mem.upd];split
   ·rename_i e;subst e;exact hh
   ·rfl
  ·intro x o hx;have hne:x≠b:=fun e=>by subst e;rw[hb] at hx;cases hx
   simp only[if_neg hne];exact h0 x o hx
  ·intro x o hn hx;have hne:x≠b:=fun e=>hn ⟨_,ha,e.symm⟩
   exact ho.base x o (by simp only[if_neg hne];exact hx)
end Go.Vm
namespace Go.Vm
open Classical in
noncomputable def Mem.minus (M:Mem) (S:Nat→Prop):Mem:=fun x=>if S x then none else M x
theorem Mem.minus_le (M:Mem) (S:Nat→Prop):(M.minus S).le M:=fun b o h=>by unfold Mem.minus at h;split at h;cases h;exact h
theorem Mem.keep_minus {M M':Mem} {S:Nat→Prop}:Mem.keep S M M'↔(M.minus S).le M':=by
 constructor
 ·intro h b o hb;unfold Mem.minus at hb;split at hb
  ·cases hb
  ·exact h b o ‹_› hb
 ·intro h b o hn hb;exact h b o (by unfold Mem.minus;rw[if_neg hn];exact hb)
theorem Mem.le_minus {M0 M:Mem} {S:Nat→Prop} (h:M0.le M) (hS:∀ b,S b→M0 b=none):M0.le (M.minus S):=fun b o hb=>by
 unfold Mem.minus;rw[if_neg (fun hs=>by rw[hS b hs] at hb;cases hb)];exact h b o hb
theorem Mem.minus_none {M:Mem} {S:Nat→Prop} {b:Nat} (h:M.minus S b=none):S b∨M b=none:=by
 unfold Mem.minus at h;split at h
 ·left;assumption
 ·right;exact h
theorem Mem.minus_in {M:Mem} {S:Nat→Prop} {b:Nat} (h:S b):M.minus S b=none:=by unfold Mem.minus;rw[if_pos h]
end Go.Vm
namespace Go.Vm
theorem Wr.block {M:Mem} {E:TypeId} {s:Nat} {a:Option Addr} {n c:Nat} {L:List Value} (h:Wr M E s a n c L) {q:Addr} (ha:a=some q):∃ cs,M.has q.block E cs:=by
 obtain⟨_,_,⟨h3,_⟩|⟨b,cs,hab,hh,_⟩⟩:=h
 ·rw[h3] at ha;cases ha
 ·rw[hab] at ha;cases ha;exact⟨cs,hh⟩
end Go.Vm
namespace Go.Vm
theorem Mem.row_minus {M:Mem} {S:Nat→Prop} {b o n:Nat} {vs:List Value} (h:M.row b o n=some vs) (hb:¬S b):(M.minus S).row b o n=some vs:=by
 unfold Mem.row at h ⊢;have:M.minus S b=M b:=by unfold Mem.minus;rw[if_neg hb]
 rw[this];exact h
theorem SrcOk.minus {M:Mem} {S:Nat→Prop} {size:Nat} {a:Option Addr} {n:Nat} {l:List Value} (h:SrcOk M size a n l) (hb:∀ q,a=some q→¬S q.block):SrcOk (M.minus S) size a n l:=by
 obtain⟨hl,h1|⟨c,o,ha,h2⟩⟩:=h
 ·exact⟨hl,.inl h1⟩
 ·exact⟨hl,.inr ⟨c,o,ha,Mem.row_minus h2 (hb _ ha)⟩⟩
theorem SrcOk.lit {M:Mem} {b:Nat} {E:TypeId} {size n:Nat} {l:List Value} (hl:l.length=n*size):SrcOk (M.setCells b E l) size (some ⟨b,0,Option.none⟩) n l:=
 ⟨hl,.inr ⟨b,0,rfl,by rw[Mem.row_cells (by omega),←hl];simp⟩⟩
theorem ziH {α:Type} (l:List α) (o:Nat) (v:α) (h:o<l.length):ze l o [v]=l.set o v:=by
 unfold ze;rw[List.set_eq_take_append_cons_drop,if_pos h];simp
end Go.Vm
namespace Go.Vm
theorem Mem.textAt_setCells {M:Mem} {b:Nat} {E:TypeId} {l:List Value}:(M.setCells b E l).textAt b=some (.cells l.toArray E (l.length,l.length+1)):=by
 simp[Mem.textAt,Mem.setCells,Mem.upd]
theorem Mem.row_obj {M:Mem} {b:Nat} {E:TypeId} {l:List Value} {fz:Nat×Nat} {o n:Nat} (hb:M b=some (.cells l.toArray E fz)) (h:o+n≤l.length):M.row b o n=some ((l.drop o).take n):=by
 simp[Mem.row,hb,h]
end Go.Vm
namespace Go.Vm
theorem Mem.has.minus {M:Mem} {S:Nat→Prop} {b:Nat} {E:TypeId} {l:List Value} (h:M.has b E l) (hb:¬S b):(M.minus S).has b E l:=by
 unfold Mem.has Mem.minus at *; rw[if_neg hb];exact h
theorem Mem.has.src {M:Mem} {b:Nat} {E:TypeId} {l:List Value} (h:M.has b E l) {size n:Nat} (hl:l.length=n*size):SrcOk M size (some ⟨b,0,Option.none⟩) n l:=
 ⟨hl,.inr ⟨b,0,rfl,by rw[h.row (by omega),←hl];simp⟩⟩
end Go.Vm
namespace Go.Vm
theorem Wr.store1 {α:Type} {f:α→Value} {M:Mem} {E:TypeId} {a:Option Addr} {n c:Nat} {L:List α} (h:Wr M E 1 a n c (L.map f)) {j:Nat} (hj:j<n) :
  ∃ b cs,a=some ⟨b,0,Option.none⟩∧M.cells b=some (E,cs)∧0+j*1+1≤cs.length∧∀ v,Wr (M.setCells b E (ze cs (0+j*1) [f v])) E 1 a n c ((L.set j v).map f)∧Mem.keep (z6 a) M (M.setCells b E (ze cs (0+j*1) [f v])):=by
 obtain⟨h1,h2,⟨ha,hc⟩|⟨b,cs,ha,hh,hl,ht⟩⟩:=h
 ·omega
 ·refine⟨b,cs,ha,hh.cells,by omega,fun v=>⟨⟨by simpa using h1,h2,.inr ⟨b,_,ha,Mem.has_setCells,?_,?_⟩⟩,?_⟩⟩
  ·rw[ziH _ _ _ (by omega)];simpa using hl
  ·rw[ziH _ _ _ (by omega)];simp only[Nat.zero_add,Nat.mul_one] at ht ⊢;rw[List.take_set,ht,List.map_set]
  ·intro x o hx hM;have hne:x≠b:=fun e=>hx ⟨_,ha,e.symm⟩
   unfold Mem.setCells;rw[Mem.upd_ne _ _ hne];exact hM
theorem Wr.len {M:Mem} {E:TypeId} {s:Nat} {a:Option Addr} {n c:Nat} {L:List Value} (h:Wr M E s a n c L):L.length=n*s:=h.1
theorem Wr.maplen {α:Type} {f:α→Value} {M:Mem} {E:TypeId} {a:Option Addr} {n c:Nat} {L:List α} (h:Wr M E 1 a n c (L.map f)):L.length=n:=by simpa using h.1
end Go.Vm
namespace Go.Vm
theorem Mem.has.upd {M:Mem} {p b:Nat} {E:TypeId} {l:List Value} (h:M.has p E l) (hne:p≠b) (o:Obj):(M.upd b o).has p E l:=by
 unfold Mem.has at *; rw[Mem.upd_ne _ _ hne];exact h
end Go.Vm
namespace Go.Vm
theorem SrcOk.sub {M:Mem} {s:Nat} {a:Option Addr} {n:Nat} {vs:List Value} (h:SrcOk M s a n vs) {lo hi c:Nat} (h1:lo≤hi) (h2:hi≤n) (hc:n≤c) (hs:0<s):SrcOk M s (subA a lo c s) (hi - lo) ((vs.drop (lo*s)).take ((hi - lo)*s)):=by
 have hl:=h.1;have hm:(hi - lo)*s+lo*s=hi*s:=by rw[←Nat.add_mul];congr 1;omega
 have hm2:hi*s≤n*s:=Nat.mul_le_mul_right _ h2;refine⟨by simp;omega,?_⟩;by_cases hz:hi - lo=0
 ·left;rw[hz];simp
 right;rcases h.2 with h3|⟨b,o,ha,hr⟩
 ·subst h3;have:1*s≤n*s:=Nat.mul_le_mul_right _ (by omega)
  simp at hl;omega
 ·refine⟨b,o+lo*s,?_,?_⟩
  ·unfold subA;rw[if_neg (by omega),ha];simp[zcy]
  ·unfold Mem.row at hr ⊢;split at hr
   ·split at hr
    ·rename_i hle;have:=Option.some.inj hr
     rw[if_pos (by omega),←this,List.drop_take,List.drop_drop,List.take_take,Nat.min_eq_left (by omega)]
    ·cases hr
   ·cases hr
theorem SrcOk.subm {α:Type} {f:α→Value} {M:Mem} {a:Option Addr} {n:Nat} {l:List α} (h:SrcOk M 1 a n (l.map f)) {lo hi c:Nat} (h1:lo≤hi) (h2:hi≤n) (hc:n≤c):SrcOk M 1 (subA a lo c 1) (hi - lo) (((l.drop lo).take (hi - lo)).map f):=by
 have:=h.sub (lo:=lo) (hi:=hi) h1 h2 hc (by decide);simpa[List.map_take,List.map_drop] using this
end Go.Vm
namespace Go.Vm
theorem zco (l:List UInt8):∀ u∈l.map zl,u.oneCell'=true:=fun u hu=>by
 obtain⟨b,_,rfl⟩:=List.mem_map.1 hu;rfl
theorem zR {A B:Prop} (a:A) (k:A→B:=by intro a;(repeat' ((conv=>whnf);first|refine⟨?_,True.intro⟩|refine Go.Vm.brn_t rfl ?_|refine Go.Vm.brn_f rfl ?_|refine Go.Vm.ob rfl ?_|refine Go.Vm.ob (by decide) ?_|refine Go.Vm.grow_same (Go.Vm.Mem.le_refl _) ?_|refine Go.Vm.ob (Go.Vm.Mem.le_refl _) ?_|refine⟨_,Go.Vm.Mem.le_refl _,?_⟩|fail));exact a):B:=k a
theorem zX {A B:Prop} (a:A) (k:A→B:=by intro a;(repeat' ((conv=>whnf);first|refine⟨?_,True.intro⟩|refine Go.Vm.brn_t rfl ?_|refine Go.Vm.brn_f rfl ?_|refine Go.Vm.ob rfl ?_|refine Go.Vm.ob (by decide) ?_|refine Go.Vm.grow_same (Go.Vm.Mem.le_refl _) ?_|refine Go.Vm.ob (Go.Vm.Mem.le_refl _) ?_|fail));exact a):B:=k a
theorem zT {p A B:Prop} (h:p) (a:A) (k:p→A→B:=by intro h a;(repeat' ((conv=>whnf);first|refine Go.Vm.ob rfl ?_|refine Go.Vm.grow_same h ?_|refine Go.Vm.ob h ?_|refine⟨?_,True.intro⟩|fail));exact a):B:=k h a
theorem zU {A B:Prop} (a:A) (k:A→B:=by intro a;(repeat' ((conv=>whnf);first|refine Go.Vm.ob rfl ?_|refine Go.Vm.grow_same (Go.Vm.Mem.le_refl _) ?_|refine Go.Vm.ob (Go.Vm.Mem.le_refl _) ?_|refine⟨?_,True.intro⟩|fail));exact a):B:=k a
theorem zL {p A B:Prop} (h:p) (a:A) (k:p→A→B:=by intro h a;(repeat' ((conv=>whnf);first|refine⟨?_,True.intro⟩|refine Go.Vm.brn_t rfl ?_|refine Go.Vm.brn_f rfl ?_|refine Go.Vm.ob rfl ?_|refine Go.Vm.ob (by decide) ?_|refine Go.Vm.grow_same (Go.Vm.Mem.le_refl _) ?_|refine Go.Vm.ob (Go.Vm.Mem.le_refl _) ?_|refine Go.Vm.on (Go.Vm.Mem.has.c1 h rfl) ?_|refine⟨_,Go.Vm.Mem.le_refl _,?_⟩|fail));exact a):B:=k h a
theorem zL3 {p q r A B:Prop} (h:p) (h':q) (h'':r) (a:A) (k:p→q→r→A→B:=by intro h h' h'' a;(repeat' ((conv=>whnf);first|refine⟨?_,True.intro⟩|refine Go.Vm.brn_t rfl ?_|refine Go.Vm.brn_f rfl ?_|refine Go.Vm.ob rfl ?_|refine Go.Vm.ob (by decide) ?_|refine Go.Vm.grow_same (Go.Vm.Mem.le_refl _) ?_|refine Go.Vm.ob (Go.Vm.Mem.le_refl _) ?_|refine Go.Vm.on (Go.Vm.Mem.has.c1 h rfl) ?_|refine Go.Vm.on (Go.Vm.Mem.has.c1 h' rfl) ?_|refine Go.Vm.on (Go.Vm.Mem.has.c1 h'' rfl) ?_|refine⟨_,Go.Vm.Mem.le_refl _,?_⟩|fail));exact a):B:=k h h' h'' a
theorem zLX {p A B:Prop} (h:p) (a:A) (k:p→A→B:=by intro h a;(repeat' ((conv=>whnf);first|refine⟨?_,True.intro⟩|refine Go.Vm.brn_t rfl ?_|refine Go.Vm.brn_f rfl ?_|refine Go.Vm.ob rfl ?_|refine Go.Vm.ob (by decide) ?_|refine Go.Vm.grow_same (Go.Vm.Mem.le_refl _) ?_|refine Go.Vm.ob (Go.Vm.Mem.le_refl _) ?_|refine Go.Vm.on (Go.Vm.Mem.has.c1 h rfl) ?_|fail));exact a):B:=k h a
theorem zS {t s:St} (h1:zuF s.fr t.fr:=by repeat' first|exact True.intro|refine⟨rfl,?_⟩) (h2:zuG s.bx t.bx:=by repeat' first|exact True.intro|refine⟨rfl,?_⟩) (h3:t.M.le s.M:=by exact Go.Vm.Mem.le_refl _) (h4:t.wf=true:=by rfl):t.sub s:=⟨h1,h2,h3,h4⟩
end Go.Vm
namespace Go.Proofs.YtpdkkbpkplhdpaaGreat
open Go.ChangeShapes Go.WideShapes Go.ChangeAt Go.RowKit Go.Vm
namespace Br
set_option maxRecDepth 100000
theorem own:ownKnob Tryz.prog.godebug=none:=by kernel_rfl
theorem zte:Tryz.prog.underlying T.zhc=some .bool:=by kernel_rfl
theorem zCO:laidOutB Tryz.prog=true:=by kernel_rfl
theorem zD4 {H:Type} (d:DataW H):1≤Rows.uptoBulk d:=by
 cases d with
 | lit l=>cases l<;>simp[Rows.uptoBulk]
 | nil=>simp[Rows.uptoBulk]
 | ptr d=>simp[Rows.uptoBulk]
 | slice elems spare=>simp[Rows.uptoBulk]
 | agg parts=>simp[Rows.uptoBulk]
 | iface t d=>simp[Rows.uptoBulk]
 | map entries=>simp[Rows.uptoBulk]
 | held h=>simp[Rows.uptoBulk]
theorem zsa {H:Type} {d:DataW H} {l:List (DataW H)} (h:d∈l):Rows.uptoBulk d≤Rows.uptoBulkAll l:=by
 induction l with
 | nil=>cases h
 | cons x r ih=>
  simp only[Rows.uptoBulkAll];cases List.mem_cons.1 h with
  | inl e=>subst e;omega
  | inr e=>have:=ih e;omega
theorem zz9 {H:Type} (l:List (DataW H)):l.length≤Rows.uptoBulkAll l:=by
 induction l with
 | nil=>simp[Rows.uptoBulkAll]
 | cons x r ih=>have:=zD4 x;simp only[Rows.uptoBulkAll,List.length_cons];omega
def Reads (t:TypeId) (s:Nat) {α:Type} (R:Mem→List Value→α→Prop):Prop:=
 ∀ (H:Type) (enc:TypeId×Value→H) (W:World) (fuel:Nat) (cs:List Value) (d:DataW H) (ps:List MemPlace),
  DataW.trod enc Tryz.prog W 0 (fun _=>true) true fuel t cs=some (d,ps)→Rows.uptoBulk d≤1048576→cs.length=s∧∃ x,R (zy W) cs x
def zqZ (k:IntKind) (n:Int):Prop:=(Lit.int k n).wf=true
theorem Reads.int {t:TypeId} {k:IntKind} (hu:Tryz.prog.underlying t=some (.int k)):Reads t 1 fun (_:Mem) cs (n:Int)=>cs=[.int k n]∧zqZ k n:=by
 intro H enc W fuel cs d ps h _;cases fuel with
 | zero=>simp[DataW.trod] at h
 | succ m=>
  unfold DataW.trod at h;rw[hu] at h;split at h<;>first|(simp at *; done)|skip
  rename_i k2 k1 n e1;split at h
  ·rename_i hk;cases e1;exact⟨rfl,n,by rw[hk.1],hk.2⟩
  ·cases h
theorem zCP {W:World} {b o n:Nat} {f:Option Nat} {vs:List Value} (hf:f=none) (hn:0<n) (h:W.cells? 0 ⟨b,o,f⟩ n=some vs):(zy W).row b o n=some vs:=by
 subst hf;unfold World.cells? at h;simp only[Nat.zero_le,if_true] at h;have hl:=mapM_some_length h
 have hg:∀ i,i<n→W.cell? ⟨b,o+i,none⟩=vs[i]? := fun i hi=>by
  have:=mapM_some_get h i i (by simp[hi])
  rwa [zcy] at this
 have h0:=hg 0 hn;rw[List.length_range] at hl;unfold Mem.row zy;cases hw:W.heap[b]? with
 | none=>
  simp only[World.cell?, hw] at h0;rw[List.getElem?_eq_getElem (by omega)] at h0;cases h0
 | some ob=>
  cases ob with
  | cells c e fz=>
   have hc:∀ i,i<n→c[o+i]? = vs[i]? := fun i hi=>by
    have:=hg i hi;simpa[World.cell?, hw] using this
   have hlast:=hc (n - 1) (by omega);rw[List.getElem?_eq_getElem (by omega)] at hlast;have hsz:=(Array.getElem?_eq_some_iff.1 hlast).1
   simp only;rw[if_pos (by omega)];congr 1;apply List.ext_getElem?;intro i;by_cases hi:i<n
   ·rw[List.getElem?_take,if_pos hi,List.getElem?_drop,Array.getElem?_toList,hc i hi]
   ·rw[List.getElem?_take,if_neg hi,List.getElem?_eq_none (by omega)]
  | _=>
   simp only[World.cell?, hw] at h0;rw[List.getElem?_eq_getElem (by omega)] at h0;cases h0
theorem zBr {W W':World} (h:(zy W).le (zy W')) (hos:W'.os=W.os) (ht:W'.tape=W.tape) (ho:W'.output=W.output) (hs:W.heap.size≤W'.heap.size):Below W.heap.size W W':=
 ⟨hos,ht,ho,hs,fun k hk=>by
  have:W.heap[k]? = some W.heap[k]:=Array.getElem?_eq_getElem hk;rw[this]
  exact h k _ this⟩
theorem zAa {M:Mem} {b o s:Nat} (cl:List (List Value)) (hs:0<s) (hne:cl.length≠0) (h:∀ i cs,cl[i]? = some cs→M.row b (o+i*s) s=some cs) (hl:∀ cs∈cl,cs.length=s) {n:Nat} (hn:cl.length=n) :
  M.row b o (n*s)=some cl.flatten:=by
 have hflat:cl.flatten.length=n*s:=by
  rw[List.length_flatten]
  have:cl.map List.length=List.replicate n s:=by
   apply List.ext_getElem (by simp[hn]);intro i h1 h2;simp at h1;simp[hl _ (List.getElem_mem h1)]
  rw[this];simp
 have hlast:=h (n - 1) _ (List.getElem?_eq_getElem (by omega));unfold Mem.row at h hlast ⊢;cases hM:M b with
 | none=>rw[hM] at hlast;cases hlast
 | some ob=>
  cases ob with
  | cells c e fz=>
   rw[hM] at hlast;simp only[hM] at h
   have hsz:o+(n - 1)*s+s≤c.size:=by
    simp only at hlast;split at hlast
    ·assumption
    ·cases hlast
   have hmul:n*s=(n - 1)*s+s:=by
    have:n=(n - 1)+1:=by omega
    rw[this,Nat.succ_mul];simp
   simp only;rw[if_pos (by omega)];congr 1;apply List.ext_getElem?;intro j;by_cases hj:j<n*s
   ·have hq:j / s<n:=by rw[Nat.div_lt_iff_lt_mul hs];exact hj
    have hj2:=Nat.div_add_mod j s;have hmod:=Nat.mod_lt j hs
    have h8:=h (j / s) _ (List.getElem?_eq_getElem (by omega));split at h8
    ·have h9:=congrArg (·[j % s]?) (Option.some.inj h8);simp only[List.getElem?_take,if_pos hmod,List.getElem?_drop] at h9;rw[List.getElem?_take,if_pos hj,List.getElem?_drop];have e1:o+j / s*s+j % s=o+j:=by rw[Nat.add_assoc,Nat.mul_comm,hj2]
     rw[e1] at h9;rw[h9];have h10:=zil hl (List.getElem?_eq_getElem (show j / s<cl.length by omega))
     have h11:=congrArg (·[j % s]?) h10;simp only[List.getElem?_take,if_pos hmod,List.getElem?_drop] at h11;rw[Nat.mul_comm,hj2] at h11;exact h11.symm
    ·cases h8
   ·rw[List.getElem?_eq_none (by simp;omega),List.getElem?_eq_none (by omega)]
  | _=>rw[hM] at hlast;cases hlast
theorem pick {α β:Type} {p:Nat→α→β→Prop}:∀ {n:Nat} (_:∀ i,i<n→∃ a b,p i a b),∃ (l:List α) (r:List β),l.length=n∧r.length=n∧∀ (i:Nat) a b,l[i]? = some a→r[i]? = some b→p i a b
 | 0,_=>⟨[],[],rfl,rfl,by simp⟩
 | n+1,h=>by
  obtain⟨l,r,h1,h2,h3⟩:=pick (n:=n) fun i hi=>h i (by omega)
  obtain⟨a,b,hab⟩:=h n (by omega);refine⟨l++[a],r++[b],by simp[h1],by simp[h2],fun i a' b' ha hb=>?_⟩;by_cases hi:i<n
  ·rw[List.getElem?_append_left (by omega)] at ha hb;exact h3 i a' b' ha hb
  ·have hl:=(List.getElem?_eq_some_iff.1 ha).1;simp at hl;have:i=n:=by omega
   subst this;rw[List.getElem?_append_right (by omega)] at ha hb;simp[h1,h2] at ha hb;subst ha;subst hb;exact hab
theorem Reads.slice {t e:TypeId} {s:Nat} {α:Type} {R:Mem→List Value→α→Prop} (hu:Tryz.prog.underlying t=some (.slice e)) (hc:Tryz.prog.cellsOf e=s) (hs:0<s) (hr:Reads e s R) :
  Reads t 1 fun M cs (l:List α)=>∃ a n c,cs=[.slice a n c]∧Elems M s a n (R M) l∧n≤1048576∧n≤c:=by
 intro H enc W fuel cs d ps h hb;cases fuel with
 | zero=>simp[DataW.trod] at h
 | succ m=>
  unfold DataW.trod at h;rw[hu] at h;split at h<;>first|(simp at *; done)|skip
  ·exact⟨rfl,[],none,0,0,rfl,Elems.nil _ _ _,by omega,Nat.le_refl _⟩
  ·rename_i e' a len cap h1;cases h1;rw[hc] at h;dsimp only at h;split at h
   ·rename_i hcond;simp only[Option.bind_eq_some_iff,Option.map_eq_some_iff] at h;obtain⟨els,hels,rest,hrest,hd⟩:=h;simp only[Prod.mk.injEq] at hd;obtain⟨hd, -⟩:=hd;subst hd;simp only[Rows.uptoBulk] at hb;have hlen:=mapM_some_length hels
    rw[List.length_range] at hlen;have hle:=zz9 (els.map (·.1))
    rw[List.length_map] at hle
    have hel:∀ i (hi:i<len),∃ (cs:List Value) (x:α),W.cells? 0 (a.add (i*s)) s=some cs∧cs.length=s∧R (zy W) cs x:=by
     intro i hi;have h3:=mapM_some_get hels i i (by simp[hi])
     rw[List.getElem?_eq_getElem (by omega)] at h3;obtain⟨cs,h4,h5⟩:=Option.bind_eq_some_iff.1 h3
     obtain⟨h6,x,h7⟩:=hr H enc W m cs _ _ h5 (by
      have:=zsa (List.mem_map.2 ⟨els[i]'(by omega),List.getElem_mem _,rfl⟩:(els[i]'(by omega)).1∈els.map (·.1))
      exact Nat.le_trans this (by omega))
     exact⟨cs,x,h4,h6,h7⟩
    refine⟨rfl,?_⟩;by_cases hz:len=0
    ·subst hz;exact⟨[],a,0,cap,rfl,⟨[],⟨by simp,.inl rfl⟩,rfl,rfl,by simp,by simp⟩,by omega,Nat.zero_le _⟩
    obtain⟨b,o,f⟩:=a;obtain⟨cs0,x0,h0,hl0,_⟩:=hel 0 (by omega)
    have hf:f=none:=by
     have h8:W.cells? 0 (⟨b,o,f⟩:Addr) s=some cs0:=by simpa[Addr.add] using h0
     unfold World.cells? at h8;simp only[Nat.zero_le,if_true] at h8;have h9:=mapM_some_get h8 0 0 (by simp[hs])
     rw[List.getElem?_eq_getElem (by omega)] at h9;simp only[World.cell?, Addr.add,if_true] at h9;split at h9
     ·split at h9
      ·cases h9
      ·rename_i hn;simpa using hn
     ·cases h9
    subst hf;obtain⟨cl,xl,hcl,hxl,hp⟩:=pick hel
    have hflat:cl.flatten.length=len*s:=by
     rw[List.length_flatten]
     have:cl.map List.length=List.replicate len s:=by
      apply List.ext_getElem (by simp[hcl]);intro i h1 h2;simp at h1;simp[(hp i _ _ (List.getElem?_eq_getElem h1) (List.getElem?_eq_getElem (by omega))).2.1]
     rw[this];simp
    have hrow:∀ i (hi:i<len),∀ cs,cl[i]? = some cs→(zy W).row b (o+i*s) s=some cs:=by
     intro i hi cs hc;have h8:=(hp i _ _ hc (List.getElem?_eq_getElem (by omega))).1
     rw[zcy] at h8;exact zCP rfl hs h8
    refine⟨xl,some ⟨b,o,none⟩,len,cap,rfl,⟨cl,⟨hflat,.inr ⟨b,o,rfl,zAa cl hs (by rw[hcl];omega) (fun i cs hc=>hrow i (by have:=(List.getElem?_eq_some_iff.1 hc).1;omega) cs hc) (fun cs hc=>?_) hcl⟩⟩,hcl,hxl,fun cs hc=>?_,fun i cs x hi hx=>(hp i cs x hi hx).2.2⟩,by omega,hcond.2.1⟩
    all_goals
     obtain⟨i,hi,rfl⟩:=List.mem_iff_getElem.1 hc;exact(hp i _ _ (List.getElem?_eq_getElem hi) (List.getElem?_eq_getElem (by omega))).2.1
   ·cases h
theorem field {t:TypeId} {fs:Array Field} (hu:Tryz.prog.underlying t=some (.struct fs)) {H:Type} {enc:TypeId×Value→H} {W:World} {fuel:Nat} {cs:List Value} {d:DataW H} {ps:List MemPlace}
  (h:DataW.trod enc Tryz.prog W 0 (fun _=>true) true fuel t cs=some (d,ps)) (hb:Rows.uptoBulk d≤1048576) :
  cs.length=Tryz.prog.cellsOf t∧∀ (i:Nat) f,fs[i]? = some f→∀ (s:Nat) {α:Type} {R:Mem→List Value→α→Prop},Reads f.type s R→Tryz.prog.cellsOf f.type=s→((cs.drop f.offset).take s).length=s∧∃ x,R (zy W) ((cs.drop f.offset).take s) x:=by
 obtain⟨xs,m,rfl,hd,hl,hlen,hf⟩:=DataW.trod_struct hu h;refine⟨hl,fun i f hi s α R hr hs=>?_⟩;have h1:=hf i f hi
 have hlt:i<xs.length:=by rw[hlen];exact(Array.getElem?_eq_some_iff.1 hi).1
 rw[List.getElem?_eq_getElem hlt,hs] at h1;cases hd
 exact hr H enc W _ _ _ _ h1 (by
  have:=zsa (List.mem_map.2 ⟨xs[i],List.getElem_mem _,rfl⟩:xs[i].1∈xs.map (·.1));simp only[Rows.uptoBulk] at hb
  exact Nat.le_trans this (by omega))
def Chunks (cs:List Value):Nat→List (List Value)→Prop
 | o,[]=>cs.length=o
 | o,c::r=>(cs.drop o).take c.length=c∧Chunks cs (o+c.length) r
theorem Chunks.drop {cs:List Value}:∀ {o:Nat} {l:List (List Value)},Chunks cs o l→cs.drop o=l.flatten
 | o,[],h=>by rw[List.drop_eq_nil_iff.2 (by simp only[Chunks] at h;omega)];rfl
 | o,c::r,⟨h1,h2⟩=>by
  rw[List.flatten_cons,←h2.drop,←List.drop_drop,←List.take_append_drop c.length (cs.drop o),h1];simp
theorem Chunks.eq {cs:List Value} {l:List (List Value)} (h:Chunks cs 0 l):cs=l.flatten:=by simpa using h.drop
theorem zlq {H:Type} {enc:TypeId×Value→H} {W:World}:∀ {ts:List TypeId} {vs:List Value} {ds:List (DataW H)} {ps:List MemPlace},DataW.TrodAll enc Tryz.prog W 0 (fun _=>true) true ts vs ds ps→ds.length=ts.length
 | [],vs,ds,ps,h=>by obtain⟨_,rfl,_⟩:=trodAll_nil h;rfl
 | t::ts,vs,ds,ps,h=>by obtain⟨v,vs',d,ds',p,q,_,rfl,_,_,h⟩:=trodAll_cons h;simp[zlq h]
theorem zmK {H:Type} {enc:TypeId×Value→H} {W W':World} (hbel:Below W.heap.size W W') {sp:Nat→Bool}:∀ {ts:List TypeId} {vs:List Value} {ds:List (DataW H)} {ps:List MemPlace},
  DataW.TrodAll enc Tryz.prog W 0 (fun _=>true) true ts vs ds ps→(∀ t∈ts,Tryz.prog.readableRec t=true∧t<Tryz.prog.types.size)→(∀ x∈ps,x.block<W.heap.size)→(∀ x∈ps,sp x.block=true)→DataW.TrodAll enc Tryz.prog W' 0 sp true ts vs ds ps
 | [],vs,ds,ps,h,_,_,_=>by obtain⟨rfl,rfl,rfl⟩:=trodAll_nil h;exact trodAll_mk0
 | t::ts,vs,ds,ps,h,hr,hlt,hsp=>by
  obtain⟨v,vs',d,ds',p1,p2,rfl,rfl,rfl,h0,hA⟩:=trodAll_cons h;obtain⟨h1,h2⟩:=hr t (by simp)
  exact trodAll_cons_mk (WideElems.Trod_stays zCO h1 h2 h0 (fun x hx=>hbel.same (hlt x (List.mem_append_left _ hx))) (fun x hx=>hsp x (List.mem_append_left _ hx)))
   (zmK hbel hA (fun x hx=>hr x (List.mem_cons_of_mem _ hx)) (fun x hx=>hlt x (List.mem_append_right _ hx)) (fun x hx=>hsp x (List.mem_append_right _ hx)))
set_option maxRecDepth 10000 in
theorem zEC {fn:Func} {f:Nat} {s:ChangeSpec} {handsOn again fresh:Bool} (hs:∀ H (ds:List (DataW H)),ds.length=fn.params.size→(s.fn H ds).results=[.lit (.bool true)]∧(s.fn H ds).args=ds∧(s.fn H ds).vars=[])
  (hv:s.vars=[]) (hres:fn.resultTypes = #[T.zhc]) (hread':fn.params.toList.all (fun t=>Tryz.prog.readableRec t&&decide (t<Tryz.prog.types.size))=true)
  (H:Type) (enc:TypeId×Value→H) (W:World) (args:Array Value) (ds gs:List (DataW H)) (before:List MemPlace)
  (hW:DataW.Whole enc Tryz.prog fn.params.toList s.vars false W args.toList ds gs before) (law:CallsM Tryz.prog f args.toList (zy W) fun v M'=>v = .bool true∧(zy W).le M') :
  Calls Tryz.prog f args W fun e W'=>∃ v,e = .returned v∧s.post enc Tryz.prog fn false fresh handsOn again W args v W':=by
 have hread:∀ t∈fn.params.toList,Tryz.prog.readableRec t=true∧t<Tryz.prog.types.size:=fun t ht=>by
  have:=List.all_eq_true.1 hread' t ht;simpa using this
 have hW':=hW;obtain⟨p,q,hA,hV,rfl,hfz,hnd⟩:=hW;rw[hv] at hV;obtain⟨rfl,rfl⟩:=trodVars_none hV;have hlen:ds.length=fn.params.size:=by simpa using zlq hA
 simp only[List.append_nil] at hW';obtain⟨h1,h2,h3⟩:=hs H ds hlen;have:=law.2 (fun _=>none) W (Mem.le_refl _) (fun _ _ h=>by cases h) (fun _ => .inr rfl)
 simp only[Array.toArray_toList] at this;refine this.mono fun e W' ⟨v,M',he,⟨hvt,hle⟩,hM',_,_,hos,hout,htape,hsz⟩=>?_
 subst he;subst hvt;have hbel:Below W.heap.size W W':=zBr (Mem.le_trans hle hM') hos htape hout hsz.1
 have hlt:∀ x∈p,x.block<W.heap.size:=fun x hx=>by simpa using hW'.lt x hx
 have hres':∀ (b:Nat) (sp:Nat→Bool) (hd:Bool),DataW.TrodAll enc Tryz.prog W' b sp hd fn.resultTypes.toList ((Value.bool true).resultList fn.resultTypes.size) (s.fn H (ds++[])).results []:=fun b sp hd=>by
  rw[List.append_nil,h1,hres];exact trodAll_cons_mk (shut_bool zte _) trodAll_mk0
 have hargs':∀ sp:Nat→Bool,(∀ x∈p,sp x.block=true)→DataW.TrodAll enc Tryz.prog W' 0 sp true fn.params.toList args.toList (s.fn H (ds++[])).args p:=fun sp hsp=>by
  rw[List.append_nil,h2];exact zmK hbel hA hread hlt hsp
 have hvars':∀ sp:Nat→Bool,DataW.TrodVars enc Tryz.prog W' sp s.vars (s.fn H (ds++[])).vars []:=fun sp=>by rw[hv,List.append_nil,h3];exact rfl
 have hbelow:∀ x∈p,decide (x.block<W.heap.size)=true:=fun x hx=>decide_eq_true (hlt x hx)
 have hub:Tryz.prog.underlying T.zhc=some .bool:=zte;have hok:=ok_one (P:=Tryz.prog) (W':=W') (v := .bool true) hres rfl (okWide_bool_mk hub true)
 have hkept:=hbel.frame (fun x=>x∈p∧(x∈([]:List MemPlace)∨x∈p∨x∈([]:List MemPlace)));refine⟨_,rfl,ds,[],p,[],p,[],hW',hres' _ _ _,hargs' _ hbelow,hvars' _,hkept,fun _=>⟨hok,_,_,([]++p)++[],⟨[]++p,[],trodAll_append (hargs' _ (fun _ _=>rfl)) (hres' _ _ _),hvars' _,rfl,?_,?_⟩,?_⟩⟩
 ·intro b off hx;have hx':MemPlace.cell b off∈p:=by simpa using hx
  rw[hbel.frozen (p:=⟨b,off,none⟩) (hlt _ hx')];exact hfz b off (by simpa using hx')
 ·intro h;cases h
 ·intro x hx _;simpa using hx
theorem zyE {t:TypeId} {fs:Array Field} (hu:Tryz.prog.underlying t=some (.struct fs)) {W:World} {base:Nat} {v:Value} (h:Value.okWide Tryz.prog W .any base t v):v = .agg v.cells.toList.toArray:=by
 unfold Value.okWide at h;rw[hu] at h;obtain⟨cs,hv,_⟩:=h;rw[hv];rfl
theorem zCQ {v x:Value} (hn:∀ cs,v ≠ .agg cs) (hx:v.cells.toList=[x]):v=x:=by
 unfold Value.cells at hx;split at hx
 ·exact absurd rfl (hn _)
 ·simpa using hx
theorem zu6 {t:TypeId} {d:TypeDesc} (hu:Tryz.prog.underlying t=some d) (hd:(match d with | .int _ | .bool | .string | .slice _=>true|_=>false)=true) {W:World} {base:Nat} {v x:Value} (h:Value.okWide Tryz.prog W .any base t v) (hx:v.cells.toList=[x]):v=x:=by
 refine zCQ (fun cs e=>?_) hx;rw[e] at h;cases d with
 | int k=>simp[Value.okWide,Cell.okWide,Cell.ok,hu] at h
 | bool=>simp[Value.okWide,Cell.okWide,Cell.ok,hu] at h
 | string=>simp[Value.okWide,Cell.okWide,Cell.ok,hu] at h
 | slice e'=>simp[Value.okWide,Cell.okWide,Cell.ok,hu] at h
 | _=>cases hd
theorem zED {H:Type} {ds:List (DataW H)} (h:Rows.uptoSmall H (ds++[])=true):∀ d∈ds,Rows.uptoBulk d≤1048576:=fun d hd=>by
 have h1:Rows.uptoBulkAll (ds++[])≤1048576:=Zd0 h;rw[List.append_nil] at h1;exact Nat.le_trans (zsa hd) h1
end Br
end Go.Proofs.YtpdkkbpkplhdpaaGreat
