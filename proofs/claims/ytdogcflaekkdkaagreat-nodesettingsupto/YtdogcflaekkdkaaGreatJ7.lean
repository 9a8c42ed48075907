/- Part of this proof;laid by program. -/
import Derived.Test.YtdogcflaekkdkaaGreatJ6
set_option linter.unusedVariables false
set_option linter.unusedSimpArgs false
namespace Go.Vm
theorem brn {x:Bool} {A B:Prop} (h:x=true→A) (h':x=false→B):Brn x A B:=⟨h,h'⟩
theorem brn_t {x:Bool} {A B:Prop} (hx:x=true) (h:A):Brn x A B:=⟨fun _=>h,fun e=>absurd (hx.symm.trans e) (by simp)⟩
theorem brn_f {x:Bool} {A B:Prop} (hx:x=false) (h:B):Brn x A B:=⟨fun e=>absurd (hx.symm.trans e) (by simp),fun _=>h⟩
theorem ob {p A:Prop} (h:p) (h':A):Ob p A:=⟨h,h'⟩
theorem grow_same {X M:Mem} {A:Mem→Prop} (h:X.le M) (h':A X):Grow X M A:=⟨X,fun _ _ h=>h,h,h'⟩
theorem on {α:Type} {x:Option α} {l:α} {k:α→Prop} (h:x=some l) (h':k l):onO x k:=by subst h;exact h'
theorem CallsM.mono {P:Program} {f:Nat} {args:List Value} {M:Mem} {R R':Value→Mem→Prop} (h:CallsM P f args M R) (hr:∀ v M',R v M'→R' v M'):CallsM P f args M R':=
 ⟨h.1,fun F w h1 h2 h3=>(h.2 F w h1 h2 h3).mono fun _ _ ⟨v,M',he,hk,hx⟩=>⟨v,M',he,hr v M' hk,hx⟩⟩
theorem app {E:TypeId} {size bytes:Nat} {a:Option Addr} {n c m:Nat} {news:List Value} {M:Mem} {k:Option Addr→Nat→Mem→Prop} (M0:Mem) (L:List Value) (hown:Own M0 E size a n c L M)
  (h1:(n+m)*bytes≤140737488355328) (h2:n+m≤maxLen) (h3:∀ u∈news,u.oneCell'=true) (hk:∀ a' c' M',Own M0 E size a' (n+m) c' (L++news) M'→k a' c' M'):ziw E size bytes a n c m news M k:=
 ⟨h1,h2,h3,.inl ⟨M0,L,hown,fun a' c' M' _ ho=>hk a' c' M' ho⟩⟩
theorem new {M:Mem} {k:Nat→Prop} (h:∀ b,M b=none→k b):New M k:=h
theorem Mem.le_setCells {M:Mem} {b:Nat} {E:TypeId} {l:List Value} (h:M b=none):M.le (M.setCells b E l):=fun c o hc=>by
 have hne:c≠b:=fun e=>by subst e;rw[h] at hc;cases hc
 simpa[Mem.setCells,Mem.upd_ne _ _ hne] using hc
theorem Own.base {M0:Mem} {E:TypeId} {size:Nat} {a:Option Addr} {n c:Nat} {L:List Value} {M:Mem} (h:Own M0 E size a n c L M):M0.le M:=by
 obtain⟨_,_,⟨_,_,rfl⟩|⟨b,cs,_,hb,rfl,_,_⟩⟩:=h
 ·exact Mem.le_refl _
 ·exact Mem.le_setCells hb
end Go.Vm
namespace Go.Vm
theorem Mem.le_upd {M:Mem} {b:Nat} {x:Obj} (h:M b=none):M.le (M.upd b x):=fun c o hc=>by
 have hne:c≠b:=fun e=>by subst e;rw[h] at hc;cases hc
 simpa[Mem.upd,hne] using hc
def Mem.has (M:Mem) (b:Nat) (E:TypeId) (l:List Value):Prop:=M b=some (.cells l.toArray E (0,0))
theorem Mem.has.cells {M:Mem} {b:Nat} {E:TypeId} {l:List Value} (h:M.has b E l):M.cells b=some (E,l):=by unfold Mem.has at h;simp[Mem.cells,h]
theorem Mem.has.row {M:Mem} {b:Nat} {E:TypeId} {l:List Value} (h:M.has b E l) {o n:Nat} (hn:o+n≤l.length):M.row b o n=some ((l.drop o).take n):=by unfold Mem.has at h;simp[Mem.row,h,hn]
theorem Mem.has.le {A M:Mem} (hle:A.le M) {b:Nat} {E:TypeId} {l:List Value} (h:A.has b E l):M.has b E l:=hle _ _ h
theorem Mem.has_setCells {M:Mem} {b:Nat} {E:TypeId} {l:List Value}:(M.setCells b E l).has b E l:=by simp[Mem.has,Mem.setCells,Mem.upd]
def NewSl (M:Mem) (E:TypeId) (size:Nat) (a:Option Addr) (n c:Nat) (L:List Value) (M':Mem):Prop:=∃ M0,M.le M0∧Own M0 E size a n c L M'
theorem NewSl.le {M:Mem} {E:TypeId} {size:Nat} {a:Option Addr} {n c:Nat} {L:List Value} {M':Mem} (h:NewSl M E size a n c L M'):M.le M':=by
 obtain⟨M0,h0,h1⟩:=h;exact Mem.le_trans h0 h1.base
def Mem.keep (S:Nat→Prop) (M M':Mem):Prop:=∀ b o,¬S b→M b=some o→M' b=some o
theorem Mem.keep_of_le {S:Nat→Prop} {M M':Mem} (h:M.le M'):Mem.keep S M M':=fun b o _ hb=>h b o hb
end Go.Vm
namespace Go.Vm
end Go.Vm
namespace Go.Vm
theorem newSl_iff {M:Mem} {E:TypeId} {s:Nat} {a:Option Addr} {n c:Nat} {L:List Value} {M':Mem} :
  NewSl M E s a n c L M'↔M.le M'∧L.length=n*s∧n≤c∧((a=Option.none∧c=0)∨∃ b cs,a=some ⟨b,0,Option.none⟩∧M b=Option.none∧M'.has b E cs∧cs.length=c*s∧cs.take (n*s)=L):=by
 constructor
 ·intro h
  refine⟨h.le,?_⟩
  obtain⟨M0,h0,h1,h2,h3⟩:=h
  refine⟨h1,h2,?_⟩
  rcases h3 with ⟨ha,hc,_⟩|⟨b,cs,ha,hb,rfl,hl,ht⟩
  ·exact .inl ⟨ha,hc⟩
  ·refine .inr ⟨b,cs,ha,?_,Mem.has_setCells,hl,ht⟩
   cases hx:M b with
   | none=>rfl
   | some x=>rw[h0 b x hx] at hb;cases hb
 ·rintro ⟨hle,h1,h2,⟨ha,hc⟩|⟨b,cs,ha,hb,hh,hl,ht⟩⟩
  ·exact⟨M',hle,h1,h2,.inl ⟨ha,hc,rfl⟩⟩
  ·refine⟨fun x=>if x=b then none else M' x,fun x o hx=>?_,h1,h2,.inr ⟨b,cs,ha,by simp,?_,hl,ht⟩⟩
   ·have hne:x≠b:=fun e=>by subst e;rw[hb] at hx;cases hx
    simp only[if_neg hne]
    exact hle x o hx
   ·funext x
    simp only[Mem.setCells,Mem.upd]
    split
    ·rename_i e;subst e;exact hh
    ·rfl
end Go.Vm
namespace Go.Vm
def Mem.empty:Mem:=fun _=>none
theorem Mem.empty_le (M:Mem):Mem.empty.le M:=fun _ _ h=>by cases h
end Go.Vm
namespace Go.Vm
theorem Mem.has.c1 {M:Mem} {b:Nat} {E:TypeId} {l:List Value} (h:M.has b E l) {o:Nat} {v:Value} (hv:l[o]? = some v):M.row b o 1=some [v]:=by
 have hl:=(List.getElem?_eq_some_iff.1 hv).1
 rw[h.row (by omega),List.drop_eq_getElem_cons hl]
 have:=(List.getElem?_eq_some_iff.1 hv).2
 simp[this]
end Go.Vm
namespace Go.Vm
theorem Mem.has.inj {M:Mem} {b:Nat} {E E':TypeId} {l l':List Value} (h:M.has b E l) (h':M.has b E' l'):E=E'∧l=l':=by
 unfold Mem.has at h h';rw[h] at h';simp at h';exact⟨h'.2,h'.1⟩
def Wr (M:Mem) (E:TypeId) (s:Nat) (a:Option Addr) (n c:Nat) (L:List Value):Prop:=
 L.length=n*s∧n≤c∧((a=Option.none∧c=0)∨∃ b cs,a=some ⟨b,0,Option.none⟩∧M.has b E cs∧cs.length=c*s∧cs.take (n*s)=L)
theorem NewSl.wr {M:Mem} {E:TypeId} {s:Nat} {a:Option Addr} {n c:Nat} {L:List Value} {M':Mem} (h:NewSl M E s a n c L M'):Wr M' E s a n c L:=by
 rw[newSl_iff] at h
 obtain⟨_,h1,h2,h3⟩:=h
 exact⟨h1,h2,h3.imp id fun ⟨b,cs,ha,_,hr⟩=>⟨b,cs,ha,hr⟩⟩
theorem Wr.mono {M M':Mem} {E:TypeId} {s:Nat} {a:Option Addr} {n c:Nat} {L:List Value} (h:Wr M E s a n c L) (hk:∀ p o,a=some p→M p.block=some o→M' p.block=some o):Wr M' E s a n c L:=by
 obtain⟨h1,h2,h3⟩:=h
 exact⟨h1,h2,h3.imp id fun ⟨b,cs,ha,hh,hr⟩=>⟨b,cs,ha,hk _ _ ha hh,hr⟩⟩
theorem Wr.le {M M':Mem} {E:TypeId} {s:Nat} {a:Option Addr} {n c:Nat} {L:List Value} (h:Wr M E s a n c L) (hle:M.le M'):Wr M' E s a n c L:=h.mono fun _ _ _=>hle _ _
def zpq {α:Type} (M:Mem) (s:Nat) (a:Option Addr) (n:Nat) (R:List Value→α→Prop) (l:List α):Prop:=
 ∃ css:List (List Value),ziu M s a n css.flatten∧css.length=n∧l.length=n∧(∀ cs∈css,cs.length=s)∧∀ (i:Nat) cs x,css[i]? = some cs→l[i]? = some x→R cs x
def zm5 {α:Type} (M:Mem) (E:TypeId) (s:Nat) (a:Option Addr) (n c:Nat) (R:List Value→α→Prop) (l:List α) (M':Mem):Prop:=
 ∃ css:List (List Value),NewSl M E s a n c css.flatten M'∧css.length=n∧l.length=n∧(∀ cs∈css,cs.length=s)∧∀ (i:Nat) cs x,css[i]? = some cs→l[i]? = some x→R cs x
def blk (a:Option Addr):Nat→Prop:=fun x=>∃ q,a=some q∧q.block=x
theorem appK {E:TypeId} {size bytes:Nat} {a:Option Addr} {n c m:Nat} {news:List Value} {M:Mem} {k:Option Addr→Nat→Mem→Prop} (M0:Mem) (L:List Value) (hown:NewSl M0 E size a n c L M)
  (h1:(n+m)*bytes≤140737488355328) (h2:n+m≤maxLen) (h3:∀ u∈news,u.oneCell'=true) (hk:∀ a' c' M',NewSl M0 E size a' (n+m) c' (L++news) M'→Mem.keep (blk a) M M'→k a' c' M'):ziw E size bytes a n c m news M k:=by
 rw[newSl_iff] at hown
 obtain⟨h0,h4,h5,⟨ha,hc⟩|⟨b,cs,ha,hb,hh,hl,ht⟩⟩:=hown
 ·refine app M L ⟨h4,h5,.inl ⟨ha,hc,rfl⟩⟩ h1 h2 h3 fun a' c' M' ho=>hk a' c' M' ⟨M,h0,ho⟩ (Mem.keep_of_le ho.base)
 ·refine app (fun x=>if x=b then Option.none else M x) L ⟨h4,h5,.inr ⟨b,cs,ha,by simp,?_,hl,ht⟩⟩ h1 h2 h3 fun a' c' M' ho=>hk a' c' M' ⟨_,?_,ho⟩ ?_
  ·funext x
   simp only[Mem.setCells,Mem.upd]
   split
   ·rename_i e;subst e;exact hh
   ·rfl
  ·intro x o hx
   have hne:x≠b:=fun e=>by subst e;rw[hb] at hx;cases hx
   simp only[if_neg hne]
   exact h0 x o hx
  ·intro x o hn hx
   have hne:x≠b:=fun e=>hn ⟨_,ha,e.symm⟩
   exact ho.base x o (by simp only[if_neg hne];exact hx)
end Go.Vm
namespace Go.Vm
open Classical in
noncomputable def Mem.minus (M:Mem) (S:Nat→Prop):Mem:=fun x=>if S x then none else M x
theorem Mem.minus_le (M:Mem) (S:Nat→Prop):(M.minus S).le M:=fun b o h=>by unfold Mem.minus at h;split at h;cases h;exact h
theorem Mem.minus_in {M:Mem} {S:Nat→Prop} {b:Nat} (h:S b):M.minus S b=none:=by unfold Mem.minus;rw[if_pos h]
end Go.Vm
namespace Go.Vm
theorem Wr.block {M:Mem} {E:TypeId} {s:Nat} {a:Option Addr} {n c:Nat} {L:List Value} (h:Wr M E s a n c L) {q:Addr} (ha:a=some q):∃ cs,M.has q.block E cs:=by
 obtain⟨_,_,⟨h3,_⟩|⟨b,cs,hab,hh,_⟩⟩:=h
 ·rw[h3] at ha;cases ha
 ·rw[hab] at ha;cases ha;exact⟨cs,hh⟩
end Go.Vm
namespace Go.Vm
end Go.Vm
namespace Go.Vm
end Go.Vm
namespace Go.Vm
end Go.Vm
namespace Go.Vm
end Go.Vm
namespace Go.Vm
end Go.Vm
namespace Go.Vm
end Go.Vm
namespace Go.Vm
theorem zR {A B:Prop} (a:A) (k:A→B:=by intro a;(repeat' ((conv=>whnf);first|refine⟨?_,True.intro⟩|refine Go.Vm.brn_t rfl ?_|refine Go.Vm.brn_f rfl ?_|refine Go.Vm.ob rfl ?_|refine Go.Vm.ob (by decide) ?_|refine Go.Vm.grow_same (Go.Vm.Mem.le_refl _) ?_|refine Go.Vm.ob (Go.Vm.Mem.le_refl _) ?_|refine⟨_,Go.Vm.Mem.le_refl _,?_⟩|fail));exact a):B:=k a
theorem zT {p A B:Prop} (h:p) (a:A) (k:p→A→B:=by intro h a;(repeat' ((conv=>whnf);first|refine Go.Vm.ob rfl ?_|refine Go.Vm.grow_same h ?_|refine Go.Vm.ob h ?_|refine⟨?_,True.intro⟩|fail));exact a):B:=k h a
end Go.Vm
namespace Go.Proofs.YtdogcflaekkdkaaGreat
open Go.Vm Go.Vm.S
section
def zrl (i:Nat):List Nat:=match i with|0=>[0,2]|1=>[1,3,4,5,6,7,8,9,10]|_=>[]
def zrm:RCode := .seq (.ops [o 1 (.box 25 (t 0)),mv 2 (kb false)] [0,2]) (.seq (.draw (.take (la 3 10 (t 1)) (.take (la 5 10 (t 1)) (.alt (ca 4 F.zda [(t 3)]) true (.alt (ca 6 F.zj1 [(t 5)]) false (.take (o 7 (.ibin .eql (t 4) (t 6))) (.take (os 8 (.mov (t 7))) (.alt (gt 8 9 (.call (fn F.za6) [])) false (.take (o 10 (.pick (t 8) (t 9) (kb false))) (.take (mv 2 (t 10)) (.done))) (.none)))) (.none)) (.none)))) [1,3,4,5,6,7,8,9,10]) (.ret))
def zrn:List zd:=[.tmp 2]
theorem zqv {args:List Value} {M:Mem} {R:Value→Mem→Prop} (hn:args.length≤11) (h:zh Tryz.prog zrm zrn args M R):CallsM Tryz.prog F.zf2 args M R:=zg (kf:=zrl) Tryz.func3 (by kernel_rfl) (by kernel_rfl) hn (by kernel_rfl) h
def zAB (i:Nat):List Nat:=match i with|0=>[0,2]|1=>[3,5,6,7,8,9,10]|2=>[11]|3=>[4,13]|4=>[1,14,15,16,17,18,19,20,21,22,23,24,25,26,27,28,29,30,31,32,33,34,35,36,37,38,39,40,41,42,43,44,45,46,47,48,49,50,51,52]|_=>[]
def zAC:RCode := .seq (.ops [o 1 (.box 25 (t 0)),mv 2 (k 0)] [0,2]) (.seq (.seq (.ops [fa 6 0 (t 1),la 7 3 (t 6),ca 8 F.zc6 [(k 0),(t 7)],mv 5 (t 8),ex 9 (t 5) 0,ex 10 (t 5) 1,mv 3 (t 9),mv 4 (t 10)] [3,5,6,7,8,9,10]) (.seq (.ops [mv 11 (t 4),o 12 (.ibin .neq (t 11) (k 0))] [11]) (.cond (t 12) (.seq (.ops [mv 13 (t 4),mv 2 (t 13)] [4,13]) (.ret)) (.skip)))) (.seq (.seq (.ops [fa 14 3 (t 1),l1 15 (t 14),ca 16 F.zab [(t 15),(k 1),(k 1048576)],o 17 (.not (t 16)),os 18 (.mov (t 17)),gf 18 19 (.faddr 4 (t 1)),gf 18 20 (.load false 1 (t 19)),gf 18 21 (.call (fn F.zab) [(t 20),(k 16),(k 1048576)]),gf 18 22 (.not (t 21)),o 23 (.pick (t 18) (kb true) (t 22)),os 24 (.mov (t 23)),gf 24 25 (.faddr 5 (t 1)),gf 24 26 (.load false 1 (t 25)),gf 24 27 (.call (fn F.zab) [(t 26),(k 1),(k 63)]),gf 24 28 (.not (t 27)),o 29 (.pick (t 24) (kb true) (t 28)),os 30 (.mov (t 29)),gf 30 31 (.faddr 6 (t 1)),gf 30 32 (.load false 1 (t 31)),gf 30 33 (.call (fn F.zab) [(t 32),(k 1),(k 64)]),gf 30 34 (.not (t 33)),o 35 (.pick (t 30) (kb true) (t 34)),os 36 (.mov (t 35)),gf 36 37 (.faddr 7 (t 1)),gf 36 38 (.load false 1 (t 37)),gf 36 39 (.call (fn F.zab) [(t 38),(k 1),(k 64)]),gf 36 40 (.not (t 39)),o 41 (.pick (t 36) (kb true) (t 40)),os 42 (.mov (t 41)),gf 42 43 (.faddr 8 (t 1)),gf 42 44 (.load false 1 (t 43)),gf 42 45 (.call (fn F.zab) [(t 44),(k 1),(k 64)]),gf 42 46 (.not (t 45)),o 47 (.pick (t 42) (kb true) (t 46)),os 48 (.mov (t 47)),gf 48 49 (.faddr 9 (t 1)),gf 48 50 (.load false 1 (t 49)),gf 48 51 (.call (fn F.zab) [(t 50),(k 0),(k 64)]),gf 48 52 (.not (t 51)),o 53 (.pick (t 48) (kb true) (t 52))] [1,14,15,16,17,18,19,20,21,22,23,24,25,26,27,28,29,30,31,32,33,34,35,36,37,38,39,40,41,42,43,44,45,46,47,48,49,50,51,52]) (.cond (t 53) (.seq (.ops [mv 2 (k 1)] []) (.ret)) (.skip))) (.seq (.ops [mv 2 (k 0)] []) (.ret))))
def zAD:List zd:=[.tmp 2]
theorem zzc {args:List Value} {M:Mem} {R:Value→Mem→Prop} (hn:args.length≤54) (h:zh Tryz.prog zAC zAD args M R):CallsM Tryz.prog F.zda args M R:=zg (kf:=zAB) Tryz.func6 (by kernel_rfl) (by kernel_rfl) hn (by kernel_rfl) h
def zzd (i:Nat):List Nat:=match i with|0=>[0,2]|1=>[3,5,6,7,8,9,10]|2=>[1,4,11,12,13,14,15,16,17,18,19,20,21,22,23,24,25,26,27,28,29,30,31,32,33,34,35,36,37,38,39,40,41,42,43,44,45,46,47,48,49,50,51,52,53]|_=>[]
def zze:RCode := .seq (.ops [o 1 (.box 25 (t 0)),mv 2 (k 0)] [0,2]) (.seq (.ops [fa 6 0 (t 1),la 7 3 (t 6),ca 8 F.zmG [(k 0),(t 7)],mv 5 (t 8),ex 9 (t 5) 0,ex 10 (t 5) 1,o 3 (.alloc 74 [(i 0),(i 0),(i 0),(i 0),(i 0),sn,sn,(i 0),sn]),st 9 (t 3) (t 9),mv 4 (t 10)] [3,5,6,7,8,9,10]) (.seq (.seq (.ops [mv 11 (t 4),o 12 (.ibin .neq (t 11) (k 0)),os 13 (.mov (t 12)),gf 13 14 (.faddr 3 (t 1)),gf 13 15 (.load false 1 (t 14)),gf 13 16 (.call (fn F.zC) [(t 15),(k 1),(k 1048576)]),gf 13 17 (.not (t 16)),o 18 (.pick (t 13) (kb true) (t 17)),os 19 (.mov (t 18)),gf 19 20 (.faddr 4 (t 1)),gf 19 21 (.load false 1 (t 20)),gf 19 22 (.call (fn F.zC) [(t 21),(k 16),(k 1048576)]),gf 19 23 (.not (t 22)),o 24 (.pick (t 19) (kb true) (t 23)),os 25 (.mov (t 24)),gf 25 26 (.faddr 5 (t 1)),gf 25 27 (.load false 1 (t 26)),gf 25 28 (.call (fn F.zC) [(t 27),(k 1),(k 63)]),gf 25 29 (.not (t 28)),o 30 (.pick (t 25) (kb true) (t 29)),os 31 (.mov (t 30)),gf 31 32 (.faddr 6 (t 1)),gf 31 33 (.load false 1 (t 32)),gf 31 34 (.call (fn F.zC) [(t 33),(k 1),(k 64)]),gf 31 35 (.not (t 34)),o 36 (.pick (t 31) (kb true) (t 35)),os 37 (.mov (t 36)),gf 37 38 (.faddr 7 (t 1)),gf 37 39 (.load false 1 (t 38)),gf 37 40 (.call (fn F.zC) [(t 39),(k 1),(k 64)]),gf 37 41 (.not (t 40)),o 42 (.pick (t 37) (kb true) (t 41)),os 43 (.mov (t 42)),gf 43 44 (.faddr 8 (t 1)),gf 43 45 (.load false 1 (t 44)),gf 43 46 (.call (fn F.zC) [(t 45),(k 1),(k 64)]),gf 43 47 (.not (t 46)),o 48 (.pick (t 43) (kb true) (t 47)),os 49 (.mov (t 48)),gf 49 50 (.faddr 9 (t 1)),gf 49 51 (.load false 1 (t 50)),gf 49 52 (.call (fn F.zC) [(t 51),(k 0),(k 64)]),gf 49 53 (.not (t 52)),o 54 (.pick (t 49) (kb true) (t 53))] [1,4,11,12,13,14,15,16,17,18,19,20,21,22,23,24,25,26,27,28,29,30,31,32,33,34,35,36,37,38,39,40,41,42,43,44,45,46,47,48,49,50,51,52,53]) (.cond (t 54) (.seq (.ops [mv 2 (k 1)] []) (.ret)) (.skip))) (.seq (.ops [mv 2 (k 0)] []) (.ret))))
def zzf:List zd:=[.tmp 2]
theorem zxR {args:List Value} {M:Mem} {R:Value→Mem→Prop} (hn:args.length≤55) (h:zh Tryz.prog zze zzf args M R):CallsM Tryz.prog F.zj1 args M R:=zg (kf:=zzd) Tryz.func7 (by kernel_rfl) (by kernel_rfl) hn (by kernel_rfl) h
def zIk (i:Nat):List Nat:=match i with|0=>[2]|1=>[3]|3=>[0,5,6,7,8]|_=>[]
def zBU (i:Nat):List Nat:=match i with|0=>[1,4,5]|1=>[8,9,10,11,12,13,14,15,16,17,18,19,20,21,22,23,24,25,26,27]|3=>[7,29,30,31,32,33,34]|4=>[0,3,6,35,36,37,38,39,40]|_=>[]
def zBV:RCode := .seq (.ops [o 3 (.box 23 (t 1)),mv 4 (.const (.pointer none)),mv 5 (k 0)] [1,4,5]) (.seq (.seq (.ops [mv 8 (t 0),ca 9 F.zam [(t 8),(k 63)],o 10 (.not (t 9)),os 11 (.mov (t 10)),gf 11 12 (.faddr 0 (t 3)),gf 11 13 (.load false 1 (t 12)),gf 11 14 (.call (fn F.zam) [(t 13),(k 256)]),gf 11 15 (.not (t 14)),o 16 (.pick (t 11) (kb true) (t 15)),os 17 (.mov (t 16)),gf 17 18 (.faddr 1 (t 3)),gf 17 19 (.load false 1 (t 18)),gf 17 20 (.call (fn F.zam) [(t 19),(k 1048576)]),gf 17 21 (.not (t 20)),o 22 (.pick (t 17) (kb true) (t 21)),os 23 (.mov (t 22)),gf 23 24 (.faddr 2 (t 3)),gf 23 25 (.load false 1 (t 24)),gf 23 26 (.call (fn F.zam) [(t 25),(k 256)]),gf 23 27 (.not (t 26)),o 28 (.pick (t 23) (kb true) (t 27))] [8,9,10,11,12,13,14,15,16,17,18,19,20,21,22,23,24,25,26,27]) (.cond (t 28) (.seq (.ops [mv 4 (.const (.pointer none)),mv 5 (k 1)] []) (.ret)) (.skip))) (.seq (.ops [fa 30 2 (t 3),l1 31 (t 30),ca 32 F.zf3 [(t 31)],mv 29 (t 32),ex 33 (t 29) 0,ex 34 (t 29) 1,mv 6 (t 33),mv 7 (t 34)] [7,29,30,31,32,33,34]) (.seq (.ops [mv 35 (t 0),la 36 3 (t 3),o 37 (.mkMap),mv 38 (t 6),o 39 (.build [(i 0),(i 0),(i 0),(i 0),(i 0),(i 0),(i 0),(i 0),(i 0),(i 0),(i 0),(i 0),(i 0),(i 0),(i 0),(i 0),(i 0),(i 0),(i 0),(i 0),(i 0),(i 0),(i 0),(i 0),(i 0),(i 0),(i 0),(i 0),(i 0),(i 0),(i 0),(i 0),(i 0),(i 0),(i 0),(i 0),(i 0),(i 0),(i 0),(i 0),(i 0),(i 0),(i 0),(i 0),(i 0),(i 0),(i 0),(i 0),(i 0),(i 0),(i 0),(i 0),(i 0),(i 0),(i 0),(i 0),(i 0),(i 0),(i 0),(i 0),(i 0),(i 0),(i 0),(i 0),(i 0),(i 0),(i 0),(i 0),(i 0),(.map none),(i 0),(i 0),(.pointer none)] [(0,1,(t 35)),(1,3,(t 36)),(69,1,(t 37)),(72,1,(t 38))]),o 40 (.box 123 (t 39)),mv 4 (t 40),mv 5 (k 0)] [0,3,6,35,36,37,38,39,40]) (.ret))))
def zBW:List zd:=[.tmp 4,.tmp 5]
theorem zAE {args:List Value} {M:Mem} {R:Value→Mem→Prop} (hn:args.length≤41) (h:zh Tryz.prog zBV zBW args M R):CallsM Tryz.prog F.zc6 args M R:=zg (kf:=zBU) Tryz.func26 (by kernel_rfl) (by kernel_rfl) hn (by kernel_rfl) h
def zFz (i:Nat):List Nat:=match i with|0=>[6]|1=>[0,1,2,7,8,9,10,11,12,13,14]|_=>[]
def zFA:RCode := .seq (.ops [mv 6 (kb false)] [6]) (.seq (.ops [mv 7 (t 0),mv 8 (t 1),o 9 (.ibin .geq (t 7) (t 8)),os 10 (.mov (t 9)),gt 10 11 (.mov (t 0)),gt 10 12 (.mov (t 2)),gt 10 13 (.ibin .leq (t 11) (t 12)),o 14 (.pick (t 10) (t 13) (kb false)),mv 6 (t 14)] [0,1,2,7,8,9,10,11,12,13,14]) (.ret))
def zFB:List zd:=[.tmp 6]
theorem zDh {args:List Value} {M:Mem} {R:Value→Mem→Prop} (hn:args.length≤15) (h:zh Tryz.prog zFA zFB args M R):CallsM Tryz.prog F.zab args M R:=zg (kf:=zFz) Tryz.func27 (by kernel_rfl) (by kernel_rfl) hn (by kernel_rfl) h
def zBX (i:Nat):List Nat:=match i with|0=>[1,5]|1=>[6,7,8,9,10,11,12,13,14,15,16,17,18,19,20,21,22,23,24,25]|2=>[27]|3=>[0,3,28,29,30,31,32,33]|_=>[]
def zBY:RCode := .seq (.ops [o 3 (.box 23 (t 1)),o 4 (.alloc 74 [(i 0),(i 0),(i 0),(i 0),(i 0),sn,sn,(i 0),sn]),mv 5 (k 0)] [1,5]) (.seq (.seq (.ops [mv 6 (t 0),ca 7 F.zau [(t 6),(k 63)],o 8 (.not (t 7)),os 9 (.mov (t 8)),gf 9 10 (.faddr 0 (t 3)),gf 9 11 (.load false 1 (t 10)),gf 9 12 (.call (fn F.zau) [(t 11),(k 256)]),gf 9 13 (.not (t 12)),o 14 (.pick (t 9) (kb true) (t 13)),os 15 (.mov (t 14)),gf 15 16 (.faddr 1 (t 3)),gf 15 17 (.load false 1 (t 16)),gf 15 18 (.call (fn F.zau) [(t 17),(k 1048576)]),gf 15 19 (.not (t 18)),o 20 (.pick (t 15) (kb true) (t 19)),os 21 (.mov (t 20)),gf 21 22 (.faddr 2 (t 3)),gf 21 23 (.load false 1 (t 22)),gf 21 24 (.call (fn F.zau) [(t 23),(k 256)]),gf 21 25 (.not (t 24)),o 26 (.pick (t 21) (kb true) (t 25))] [6,7,8,9,10,11,12,13,14,15,16,17,18,19,20,21,22,23,24,25]) (.cond (t 26) (.seq (.ops [o 27 (.build [(i 0),(i 0),(i 0),(i 0),(i 0),sn,sn,(i 0),sn] []),st 9 (t 4) (t 27),mv 5 (k 1)] [27]) (.ret)) (.skip))) (.seq (.ops [mv 28 (t 0),la 29 3 (t 3),fa 30 2 (t 3),l1 31 (t 30),o 32 (.build [(i 0),sn] [(0,1,(t 31))]),o 33 (.build [(i 0),(i 0),(i 0),(i 0),(i 0),sn,sn,(i 0),sn] [(0,1,(t 28)),(1,3,(t 29)),(7,2,(t 32))]),st 9 (t 4) (t 33),mv 5 (k 0)] [0,3,28,29,30,31,32,33]) (.ret)))
def zBZ:List zd:=[.cell true 9 4,.tmp 5]
theorem zAF {args:List Value} {M:Mem} {R:Value→Mem→Prop} (hn:args.length≤34) (h:zh Tryz.prog zBY zBZ args M R):CallsM Tryz.prog F.zmG args M R:=zg (kf:=zBX) Tryz.func28 (by kernel_rfl) (by kernel_rfl) hn (by kernel_rfl) h
def zxS (i:Nat):List Nat:=match i with|0=>[6]|1=>[0,1,2,7,8,9,10,11,12,13,14]|_=>[]
def zxT:RCode := .seq (.ops [mv 6 (kb false)] [6]) (.seq (.ops [mv 7 (t 0),mv 8 (t 1),o 9 (.ibin .geq (t 7) (t 8)),os 10 (.mov (t 9)),gt 10 11 (.mov (t 0)),gt 10 12 (.mov (t 2)),gt 10 13 (.ibin .leq (t 11) (t 12)),o 14 (.pick (t 10) (t 13) (kb false)),mv 6 (t 14)] [0,1,2,7,8,9,10,11,12,13,14]) (.ret))
def zxU:List zd:=[.tmp 6]
theorem zwO {args:List Value} {M:Mem} {R:Value→Mem→Prop} (hn:args.length≤15) (h:zh Tryz.prog zxT zxU args M R):CallsM Tryz.prog F.zC args M R:=zg (kf:=zxS) Tryz.func29 (by kernel_rfl) (by kernel_rfl) hn (by kernel_rfl) h
def zDi (i:Nat):List Nat:=match i with|0=>[4]|1=>[0,1,5,6,7,8,9,10,11]|_=>[]
def zDj:RCode := .seq (.ops [mv 4 (kb false)] [4]) (.seq (.ops [mv 5 (t 0),o 6 (.ibin .geq (t 5) (k 0)),os 7 (.mov (t 6)),gt 7 8 (.mov (t 0)),gt 7 9 (.mov (t 1)),gt 7 10 (.ibin .leq (t 8) (t 9)),o 11 (.pick (t 7) (t 10) (kb false)),mv 4 (t 11)] [0,1,5,6,7,8,9,10,11]) (.ret))
def zDk:List zd:=[.tmp 4]
theorem zB0 {args:List Value} {M:Mem} {R:Value→Mem→Prop} (hn:args.length≤12) (h:zh Tryz.prog zDj zDk args M R):CallsM Tryz.prog F.zam args M R:=zg (kf:=zDi) Tryz.func56 (by kernel_rfl) (by kernel_rfl) hn (by kernel_rfl) h
def zDl (i:Nat):List Nat:=match i with|0=>[2,3]|1=>[4,5,6,7,8]|3=>[0,10,11,12,13]|_=>[]
def zDm:RCode := .seq (.ops [mv 2 (.const (.pointer none)),mv 3 (k 0)] [2,3]) (.seq (.seq (.ops [mv 4 (t 0),o 5 (.ibin .lss (t 4) (k 0)),os 6 (.mov (t 5)),gf 6 7 (.mov (t 0)),gf 6 8 (.ibin .gtr (t 7) (k 256)),o 9 (.pick (t 6) (kb true) (t 8))] [4,5,6,7,8]) (.cond (t 9) (.seq (.ops [mv 2 (.const (.pointer none)),mv 3 (k 1)] []) (.ret)) (.skip))) (.seq (.ops [mv 10 (t 0),o 11 (.mkMap),o 12 (.build [(i 0),(.map none)] [(0,1,(t 10)),(1,1,(t 11))]),o 13 (.box 201 (t 12)),mv 2 (t 13),mv 3 (k 0)] [0,10,11,12,13]) (.ret)))
def zDn:List zd:=[.tmp 2,.tmp 3]
theorem zB1 {args:List Value} {M:Mem} {R:Value→Mem→Prop} (hn:args.length≤14) (h:zh Tryz.prog zDm zDn args M R):CallsM Tryz.prog F.zf3 args M R:=zg (kf:=zDl) Tryz.func57 (by kernel_rfl) (by kernel_rfl) hn (by kernel_rfl) h
def zxV (i:Nat):List Nat:=match i with|0=>[4]|1=>[0,1,5,6,7,8,9,10,11]|_=>[]
def zxW:RCode := .seq (.ops [mv 4 (kb false)] [4]) (.seq (.ops [mv 5 (t 0),o 6 (.ibin .geq (t 5) (k 0)),os 7 (.mov (t 6)),gt 7 8 (.mov (t 0)),gt 7 9 (.mov (t 1)),gt 7 10 (.ibin .leq (t 8) (t 9)),o 11 (.pick (t 7) (t 10) (kb false)),mv 4 (t 11)] [0,1,5,6,7,8,9,10,11]) (.ret))
def zxX:List zd:=[.tmp 4]
theorem zwP {args:List Value} {M:Mem} {R:Value→Mem→Prop} (hn:args.length≤12) (h:zh Tryz.prog zxW zxX args M R):CallsM Tryz.prog F.zau args M R:=zg (kf:=zxV) Tryz.func58 (by kernel_rfl) (by kernel_rfl) hn (by kernel_rfl) h
def zGI (i:Nat):List Nat:=match i with|0=>[4]|1=>[1,8,9,10]|4=>[15,16]|5=>[7,17,18,19,20,21]|6=>[22]|7=>[5,23,24]|_=>[]
def zqw (i:Nat):List Nat:=match i with|0=>[2]|1=>[5]|4=>[0,7,8,9,10,11,12,13,14]|5=>[16]|6=>[4,17,18,19,20]|7=>[3,21]|_=>[]
def zqx:RCode := .seq (.ops [mv 2 (.const sn)] [2]) (.seq (.seq (.ops [mv 5 (t 0),o 6 (.pnil .eql (t 5) (.const (.pointer none)))] [5]) (.cond (t 6) (.seq (.ops [mv 2 (.const sn)] []) (.ret)) (.skip))) (.seq (.ops [o 3 (.alloc 84 [sn])] []) (.seq (.seq (.draw (.take (mv 7 (t 0)) (.take (o 8 (.nilck (t 7))) (.take (fa 9 1 (t 8)) (.take (l1 10 (t 9)) (.take (mv 11 (t 0)) (.take (o 12 (.nilck (t 11))) (.take (fa 13 3 (t 12)) (.take (l1 14 (t 13)) (.alt (ca 15 F.zcJ [(t 10),(t 14)]) false (.done) (.none)))))))))) [0,7,8,9,10,11,12,13,14]) (.block 0 (.rfun ((t 15)) [16] (.ops [mv 4 (t 16)] [16]) (.block 1 (.ops [l1 17 (t 3),mv 18 (t 4),o 19 (.mkSl true 3 1 [(i 0)] [(0,1,(t 18))]),o 20 (.app 3 1 8 [(i 0)] (t 17) (t 19)),st 1 (t 3) (t 20)] [4,17,18,19,20]))))) (.seq (.ops [l1 21 (t 3),mv 2 (t 21)] [3,21]) (.ret)))))
def zqy:List zd:=[.tmp 2]
theorem zjO {args:List Value} {M:Mem} {R:Value→Mem→Prop} (hn:args.length≤22) (h:zh Tryz.prog zqx zqy args M R):CallsM Tryz.prog F.zaI args M R:=zg (kf:=zqw) Tryz.func94 (by kernel_rfl) (by kernel_rfl) hn (by kernel_rfl) h
end
section
def zJB (i:Nat):List Nat:=match i with|0=>[2]|1=>[0,3,4,5,6,7,8,9,10,11,12,13,14,15,16,17]|_=>[]
def zzg (i:Nat):List Nat:=match i with|0=>[0,1,4]|1=>[2,3,5]|_=>[]
def zzh:RCode := .seq (.ops [o 2 (.box 3 (t 0)),o 3 (.box 3 (t 1)),mv 4 (.const .nilFunc)] [0,1,4]) (.seq (.ops [o 5 (.mkfn F.zhr [(t 3),(t 2)]),mv 4 (t 5)] [2,3,5]) (.ret))
def zzi:List zd:=[.tmp 4]
theorem zxY {args:List Value} {M:Mem} {R:Value→Mem→Prop} (hn:args.length≤6) (h:zh Tryz.prog zzh zzi args M R):CallsM Tryz.prog F.zcJ args M R:=zg (kf:=zzg) Tryz.func154 (by kernel_rfl) (by kernel_rfl) hn (by kernel_rfl) h
def zwQ (i:Nat):List Nat:=match i with|0=>[2]|1=>[0,3,4]|_=>[]
def zwR:RCode := .seq (.ops [mv 2 (k 0)] [2]) (.seq (.ops [mv 3 (t 0),o 4 (.ibin .and (t 3) (k 127)),mv 2 (t 4)] [0,3,4]) (.ret))
def zwS:List zd:=[.tmp 2]
theorem zvq {args:List Value} {M:Mem} {R:Value→Mem→Prop} (hn:args.length≤5) (h:zh Tryz.prog zwR zwS args M R):CallsM Tryz.prog F.zA args M R:=zg (kf:=zwQ) Tryz.func220 (by kernel_rfl) (by kernel_rfl) hn (by kernel_rfl) h
end
section
def zGJ (i:Nat):List Nat:=match i with|0=>[6]|1=>[2,10,11]|3=>[0,1,12,13,14,15]|4=>[17]|5=>[7,18,19,20]|6=>[9,22,23,24,25]|7=>[8,26]|_=>[]
def zzj (i:Nat):List Nat:=match i with|0=>[4]|1=>[1,8,9]|3=>[0,10]|4=>[12]|5=>[5,13,14]|6=>[7,16,17,18,19]|7=>[6,20]|_=>[]
def zzk:RCode := .seq (.ops [mv 4 (.const sn)] [4]) (.seq (.ops [mv 8 (t 1),ca 9 F.zcl [(t 8)],o 5 (.alloc 370 [(.bool false),(.bool false),(.bool false),(.bool false),(.bool false),(.bool false),(.bool false),(.bool false),(.bool false),(.bool false),(.bool false),(.bool false),(.bool false),(.bool false),(.bool false),(.bool false),(.bool false),(.bool false),(.bool false),(.bool false),(.bool false),(.bool false),(.bool false),(.bool false),(.bool false),(.bool false),(.bool false),(.bool false),(.bool false),(.bool false),(.bool false),(.bool false),(.bool false),(.bool false),(.bool false),(.bool false),(.bool false),(.bool false),(.bool false),(.bool false),(.bool false),(.bool false),(.bool false),(.bool false),(.bool false),(.bool false),(.bool false),(.bool false),(.bool false),(.bool false),(.bool false),(.bool false),(.bool false),(.bool false),(.bool false),(.bool false),(.bool false),(.bool false),(.bool false),(.bool false),(.bool false),(.bool false),(.bool false),(.bool false),(.bool false),(.bool false),(.bool false),(.bool false),(.bool false),(.bool false),(.bool false),(.bool false),(.bool false),(.bool false),(.bool false),(.bool false),(.bool false),(.bool false),(.bool false),(.bool false),(.bool false),(.bool false),(.bool false),(.bool false),(.bool false),(.bool false),(.bool false),(.bool false),(.bool false),(.bool false),(.bool false),(.bool false),(.bool false),(.bool false),(.bool false),(.bool false),(.bool false),(.bool false),(.bool false),(.bool false),(.bool false),(.bool false),(.bool false),(.bool false),(.bool false),(.bool false),(.bool false),(.bool false),(.bool false),(.bool false),(.bool false),(.bool false),(.bool false),(.bool false),(.bool false),(.bool false),(.bool false),(.bool false),(.bool false),(.bool false),(.bool false),(.bool false),(.bool false),(.bool false),(.bool false),(.bool false),(.bool false),(.bool false)]),st 128 (t 5) (t 9)] [1,8,9]) (.seq (.ops [o 6 (.alloc 84 [sn])] []) (.seq (.seq (.ops [mv 10 (t 0),ca 11 F.zcJ [(t 10),(k 128)]] [0,10]) (.block 0 (.rfun ((t 11)) [12] (.ops [mv 7 (t 12)] [12]) (.block 1 (.seq (.ops [mv 13 (t 7),o 14 (.iaddrA 128 1 (t 5) (t 13)),l1 15 (t 14)] [5,13,14]) (.cond (t 15) (.ops [l1 16 (t 6),mv 17 (t 7),o 18 (.mkSl true 3 1 [(i 0)] [(0,1,(t 17))]),o 19 (.app 3 1 8 [(i 0)] (t 16) (t 18)),st 1 (t 6) (t 19)] [7,16,17,18,19]) (.skip))))))) (.seq (.ops [l1 20 (t 6),mv 4 (t 20)] [6,20]) (.ret)))))
def zzl:List zd:=[.tmp 4]
theorem zxZ {args:List Value} {M:Mem} {R:Value→Mem→Prop} (hn:args.length≤21) (h:zh Tryz.prog zzk zzl args M R):CallsM Tryz.prog F.zj3 args M R:=zg (kf:=zzj) Tryz.func314 (by kernel_rfl) (by kernel_rfl) hn (by kernel_rfl) h
end
end Go.Proofs.YtdogcflaekkdkaaGreat
namespace Go.Proofs.YtdogcflaekkdkaaGreat
open Go Go.Vm
@[reducible] def ptr (p:Nat):Value := .pointer (some ⟨p,0,none⟩)
end Go.Proofs.YtdogcflaekkdkaaGreat
namespace Go.Vm
set_option linter.unusedSectionVars false
set_option linter.unusedSimpArgs false
section
variable {κ α:Type} [DecidableEq κ]
def zKM (kv:κ→Value) (vv:α→Value) (p:Nat×κ×α):MapEntry:={ key:=kv p.2.1,val:=vv p.2.2,born:=p.1 }
def zJ2 (kv:κ→Value) (vv:α→Value) (l:List (Nat×κ×α)) (clock:Nat):Obj := .map (l.map (zKM kv vv)).toArray clock
structure zKN (l:List (Nat×κ×α)) (clock:Nat):Prop where
 keys:(l.map (·.2.1)).Nodup
 old:∀ p∈l,p.1<clock
 apart:(l.map (·.1)).Nodup
def zJ3:List (κ×α)→κ→Option α
 | [],_=>none
 | (k,x)::r,i=>if k=i then some x else zJ3 r i
def bset:List (Nat×κ×α)→κ→α→List (Nat×κ×α)
 | [],_,_=>[]
 | (b,k,y)::r,i,x=>if k=i then (b,i,x)::r else (b,k,y)::bset r i x
variable {kv:κ→Value} {vv:α→Value}
def zKO (kv:κ→Value) (vv:α→Value) (M:Mem) (b:Nat) (m:List (κ×α)):Prop:=∃ l clock,M b=some (zJ2 kv vv l clock)∧zKN l clock∧l.map (·.2)=m
end
end Go.Vm
namespace Go.Vm
end Go.Vm
namespace Go.Vm
section
variable {κ α:Type} {kv:κ→Value} {vv:α→Value}
end
end Go.Vm
namespace Go.Vm
end Go.Vm
namespace Go.Vm
theorem CallsM.frame {P:Program} {f:Nat} {args:List Value} {A M:Mem} {R:Value→Mem→Prop} (h:CallsM P f args A R) (hA:A.le M) :
  CallsM P f args M fun v M'=>∃ A',R v A'∧A'.le M'∧∀ x o,A x=none→M x=some o→M' x=some o∧A' x=none:=by
 refine⟨h.1,fun F w hM hF hdj=>?_⟩
 obtain⟨F',hF'⟩:∃ F':Mem,F'=fun x=>if A x=none then (if M x=none then F x else M x) else none:=⟨_,rfl⟩
 have hFF:F.le F':=fun x o hx=>by
  have hMx:M x=none:=(hdj x).resolve_right (by rw[hx];simp)
  have hAx:A x=none:=by
   cases e:A x with
   | none=>rfl
   | some y=>rw[hA x y e] at hMx;cases hMx
  rw[hF'];dsimp only;rw[if_pos hAx,if_pos hMx];exact hx
 have hF'w:F'.le (zk w):=fun x o hx=>by
  rw[hF'] at hx;dsimp only at hx
  split at hx
  ·split at hx
   ·exact hF x o hx
   ·exact hM x o hx
  ·cases hx
 have hdj':A.disj F':=fun x=>by
  by_cases e:A x=none
  ·exact .inl e
  ·right;rw[hF'];dsimp only;rw[if_neg e]
 refine(h.2 F' w (fun x o hx=>hM x o (hA x o hx)) hF'w hdj').mono ?_
 rintro e w' ⟨v,A',he,hR,hA',hFw',hdA,hrest⟩
 have hin:∀ x o,A x=none→M x=some o→F' x=some o:=fun x o h1 h2=>by
  rw[hF'];dsimp only;rw[if_pos h1,if_neg (by rw[h2];simp)];exact h2
 obtain⟨M',hM'⟩:∃ M':Mem,M'=fun x=>if A' x=none then (if A x=none then M x else none) else A' x:=⟨_,rfl⟩
 refine⟨v,M',he,⟨A',hR,fun x o hx=>by rw[hM'];dsimp only;rw[if_neg (by rw[hx];simp)];exact hx,fun x o h1 h2=>?_⟩,fun x o hx=>?_,fun x o hx=>hFw' x o (hFF x o hx),fun x=>?_,hrest⟩
 ·have:=hin x o h1 h2
  have hn:A' x=none:=(hdA x).resolve_right (by rw[this];simp)
  exact⟨by rw[hM'];dsimp only;rw[if_pos hn,if_pos h1];exact h2,hn⟩
 ·rw[hM'] at hx;dsimp only at hx
  split at hx
  ·split at hx
   ·exact hFw' x o (hin x o ‹_› hx)
   ·cases hx
  ·exact hA' x o hx
 ·cases e:F x with
  | none=>exact .inr rfl
  | some o=>
   left
   have hFx:=hFF x o e
   have hn:A' x=none:=(hdA x).resolve_right (by rw[hFx];simp)
   have hMx:M x=none:=(hdj x).resolve_right (by rw[e];simp)
   rw[hM'];dsimp only;rw[if_pos hn];split
   ·exact hMx
   ·rfl
end Go.Vm
namespace Go.Vm
end Go.Vm
namespace Go.Vm
open Go.RowKit
theorem WLe.refl (W:World):WLe W W:=⟨rfl,rfl,rfl,Nat.le_refl _,Nat.le_refl _,fun _ _ h=>h⟩
theorem CallsM.world {P:Program} {f:Nat} {args:List Value} {M:Mem} {R:Value→Mem→Prop} (h:CallsM P f args M R) {w:World} (hM:M.le (zk w)) (hR:∀ v M',R v M'→M.le M') :
  Calls P f args.toArray w fun e w'=>∃ v M',e = .returned v∧R v M'∧M'.le (zk w')∧WLe w w'∧∀ b,M b=none→M' b≠none→w.heap.size≤b:=by
 obtain⟨F,hF⟩:∃ F:Mem,F=fun b=>if M b=none then zk w b else none:=⟨_,rfl⟩
 refine(h.2 F w hM (fun b o hb=>?_) (fun b=>?_)).mono ?_
 ·rw[hF] at hb;dsimp only at hb
  split at hb
  ·exact hb
  ·cases hb
 ·by_cases e:M b=none
  ·exact .inl e
  ·right;rw[hF];dsimp only;rw[if_neg e]
 ·rintro e w' ⟨v,M',he,hr,hM',hF',hdj,h1,h2,h3,h4,h5⟩
  refine⟨v,M',he,hr,hM',⟨h1,h2,h3,h5,h4,fun k o hk=>?_⟩,fun b hb hb'=>?_⟩
  ·by_cases e:M k=none
   ·exact hF' k o (by rw[hF];dsimp only;rw[if_pos e];exact hk)
   ·obtain⟨z,hz⟩:=Option.ne_none_iff_exists'.1 e
    have h6:=hM k z hz
    have:o=z:=Option.some.inj (hk.symm.trans h6)
    subst this
    exact hM' k o (hR v M' hr k o hz)
  ·have h6:=(hdj b).resolve_left hb'
   rw[hF] at h6
   dsimp only at h6
   rw[if_pos hb] at h6
   apply Classical.byContradiction
   intro hlt
   have:w.heap[b]? = none:=h6
   rw[Array.getElem?_eq_none_iff] at this
   exact hlt this
theorem zFC {P:Program} {asg body:(Exit→St→Prop)→St→Prop} {ps:List Nat} {gf:Nat} {lb:List Value} {Q:Exit→St→Prop} {fr:List (Nat×SV)} {bx:List BE} {M:Mem} {α:Type} {encs:α→List Value} {A:Mem} {N:Nat} {PM:α→Mem→Prop} {D:List α→Prop}
  (hit:zC1 P gf lb encs A N PM D) (hen:zmX P gf=true) (hbx:bx.all zIg=true) (hA:A.le M) (hlen:∀ x,(encs x).length=ps.length) (I:List α→Mem→Prop) (M0:Mem) (hM0:M0.le M) (hAM:∀ b,A b≠none→M0 b=none) (hI:I [] M0)
  (hround:∀ pre x M Mx M1,I pre M→pre.length<N→PM x Mx→(∀ b,Mx b≠none→M b=none∧A b=none)→M.le M1→Mx.le M1 →
   asg (fun e t=>e = .normal∧body (fun e t'=>e = .normal∧∃ M2,I (pre++[x]) M2∧M2.le t'.M) t) ⟨zC2 ps (encs x) fr,bx,M1⟩)
  (hdone:∀ xs M M1,D xs→I xs M→(∀ b,A b≠none→M b=none)→M.le M1→A.le M1→Q .normal ⟨fr,bx,M1⟩):zCx P asg body ps gf lb Q ⟨fr,bx,M⟩:=
 ⟨hen,hbx,α,encs,A,N,PM,D,I,hit,hA,hlen,⟨M0,hM0,hAM,hI⟩,hround,hdone⟩
end Go.Vm
