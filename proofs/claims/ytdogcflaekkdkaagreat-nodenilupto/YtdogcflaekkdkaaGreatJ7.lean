/- Part of this proof;laid by program. -/
import Derived.Test.YtdogcflaekkdkaaGreatJ6
set_option linter.unusedVariables false
set_option linter.unusedSimpArgs false
namespace Go.Vm
theorem brn_t {x:Bool} {A B:Prop} (hx:x=true) (h:A):Brn x A B:=⟨fun _=>h,fun e=>absurd (hx.symm.trans e) (by simp)⟩
theorem brn_f {x:Bool} {A B:Prop} (hx:x=false) (h:B):Brn x A B:=⟨fun e=>absurd (hx.symm.trans e) (by simp),fun _=>h⟩
theorem ob {p A:Prop} (h:p) (h':A):Ob p A:=⟨h,h'⟩
theorem on {α:Type} {x:Option α} {l:α} {k:α→Prop} (h:x=some l) (h':k l):onO x k:=by subst h;exact h'
theorem CallsM.mono {P:Program} {f:Nat} {args:List Value} {M:Mem} {R R':Value→Mem→Prop} (h:CallsM P f args M R) (hr:∀ v M',R v M'→R' v M'):CallsM P f args M R':=
 ⟨h.1,fun F w h1 h2 h3=>(h.2 F w h1 h2 h3).mono fun _ _ ⟨v,M',he,hk,hx⟩=>⟨v,M',he,hr v M' hk,hx⟩⟩
theorem app {E:TypeId} {size bytes:Nat} {a:Option Addr} {n c m:Nat} {news:List Value} {M:Mem} {k:Option Addr→Nat→Mem→Prop} (M0:Mem) (L:List Value) (hown:Own M0 E size a n c L M)
  (h1:(n+m)*bytes≤140737488355328) (h2:n+m≤maxLen) (h3:∀ u∈news,u.oneCell'=true) (hk:∀ a' c' M',Own M0 E size a' (n+m) c' (L++news) M'→k a' c' M'):zix E size bytes a n c m news M k:=
 ⟨h1,h2,h3,.inl ⟨M0,L,hown,fun a' c' M' _ ho=>hk a' c' M' ho⟩⟩
theorem new {M:Mem} {k:Nat→Prop} (h:∀ b,M b=none→k b):New M k:=h
theorem Mem.le_setCells {M:Mem} {b:Nat} {E:TypeId} {l:List Value} (h:M b=none):M.le (M.setCells b E l):=fun c o hc=>by
 have hne:c≠b:=fun e=>by subst e;rw[h] at hc;cases hc
 simpa[Mem.setCells,Mem.upd_ne _ _ hne] using hc
theorem Own.base {M0:Mem} {E:TypeId} {size:Nat} {a:Option Addr} {n c:Nat} {L:List Value} {M:Mem} (h:Own M0 E size a n c L M):M0.le M:=by
 obtain⟨_,_,⟨_,_,rfl⟩|⟨b,cs,_,hb,rfl,_,_⟩⟩:=h
 ·exact Mem.le_refl _
 ·exact Mem.le_setCells hb
end Go.Vm
namespace Go.Vm
def Mem.has (M:Mem) (b:Nat) (E:TypeId) (l:List Value):Prop:=M b=some (.cells l.toArray E (0,0))
theorem Mem.has.cells {M:Mem} {b:Nat} {E:TypeId} {l:List Value} (h:M.has b E l):M.cells b=some (E,l):=by unfold Mem.has at h;simp[Mem.cells,h]
theorem Mem.has.row {M:Mem} {b:Nat} {E:TypeId} {l:List Value} (h:M.has b E l) {o n:Nat} (hn:o+n≤l.length):M.row b o n=some ((l.drop o).take n):=by unfold Mem.has at h;simp[Mem.row,h,hn]
theorem Mem.has.le {A M:Mem} (hle:A.le M) {b:Nat} {E:TypeId} {l:List Value} (h:A.has b E l):M.has b E l:=hle _ _ h
theorem Mem.has_setCells {M:Mem} {b:Nat} {E:TypeId} {l:List Value}:(M.setCells b E l).has b E l:=by simp[Mem.has,Mem.setCells,Mem.upd]
def NewSl (M:Mem) (E:TypeId) (size:Nat) (a:Option Addr) (n c:Nat) (L:List Value) (M':Mem):Prop:=∃ M0,M.le M0∧Own M0 E size a n c L M'
theorem NewSl.le {M:Mem} {E:TypeId} {size:Nat} {a:Option Addr} {n c:Nat} {L:List Value} {M':Mem} (h:NewSl M E size a n c L M'):M.le M':=by
 obtain⟨M0,h0,h1⟩:=h;exact Mem.le_trans h0 h1.base
theorem SrcOk.nil (M:Mem) (size:Nat):SrcOk M size none 0 []:=⟨by simp,.inl rfl⟩
def Mem.keep (S:Nat→Prop) (M M':Mem):Prop:=∀ b o,¬S b→M b=some o→M' b=some o
theorem Mem.keep_of_le {S:Nat→Prop} {M M':Mem} (h:M.le M'):Mem.keep S M M':=fun b o _ hb=>h b o hb
end Go.Vm
namespace Go.Vm
end Go.Vm
namespace Go.Vm
theorem newSl_iff {M:Mem} {E:TypeId} {s:Nat} {a:Option Addr} {n c:Nat} {L:List Value} {M':Mem} :
  NewSl M E s a n c L M'↔M.le M'∧L.length=n*s∧n≤c∧((a=Option.none∧c=0)∨∃ b cs,a=some ⟨b,0,Option.none⟩∧M b=Option.none∧M'.has b E cs∧cs.length=c*s∧cs.take (n*s)=L):=by
 constructor
 ·intro h
  refine⟨h.le,?_⟩
  obtain⟨M0,h0,h1,h2,h3⟩:=h
  refine⟨h1,h2,?_⟩
  rcases h3 with ⟨ha,hc,_⟩|⟨b,cs,ha,hb,rfl,hl,ht⟩
  ·exact .inl ⟨ha,hc⟩
  ·refine .inr ⟨b,cs,ha,?_,Mem.has_setCells,hl,ht⟩
   cases hx:M b with
   | none=>rfl
   | some x=>rw[h0 b x hx] at hb;cases hb
 ·rintro ⟨hle,h1,h2,⟨ha,hc⟩|⟨b,cs,ha,hb,hh,hl,ht⟩⟩
  ·exact⟨M',hle,h1,h2,.inl ⟨ha,hc,rfl⟩⟩
  ·refine⟨fun x=>if x=b then none else M' x,fun x o hx=>?_,h1,h2,.inr ⟨b,cs,ha,by simp,?_,hl,ht⟩⟩
   ·have hne:x≠b:=fun e=>by subst e;rw[hb] at hx;cases hx
    simp only[if_neg hne]
    exact hle x o hx
   ·funext x
    simp only[Mem.setCells,Mem.upd]
    split
    ·rename_i e;subst e;exact hh
    ·rfl
end Go.Vm
namespace Go.Vm
def Mem.empty:Mem:=fun _=>none
theorem Mem.empty_le (M:Mem):Mem.empty.le M:=fun _ _ h=>by cases h
end Go.Vm
namespace Go.Vm
theorem Mem.has.c1 {M:Mem} {b:Nat} {E:TypeId} {l:List Value} (h:M.has b E l) {o:Nat} {v:Value} (hv:l[o]? = some v):M.row b o 1=some [v]:=by
 have hl:=(List.getElem?_eq_some_iff.1 hv).1
 rw[h.row (by omega),List.drop_eq_getElem_cons hl]
 have:=(List.getElem?_eq_some_iff.1 hv).2
 simp[this]
end Go.Vm
namespace Go.Vm
theorem Mem.has.inj {M:Mem} {b:Nat} {E E':TypeId} {l l':List Value} (h:M.has b E l) (h':M.has b E' l'):E=E'∧l=l':=by
 unfold Mem.has at h h';rw[h] at h';simp at h';exact⟨h'.2,h'.1⟩
def Wr (M:Mem) (E:TypeId) (s:Nat) (a:Option Addr) (n c:Nat) (L:List Value):Prop:=
 L.length=n*s∧n≤c∧((a=Option.none∧c=0)∨∃ b cs,a=some ⟨b,0,Option.none⟩∧M.has b E cs∧cs.length=c*s∧cs.take (n*s)=L)
theorem NewSl.wr {M:Mem} {E:TypeId} {s:Nat} {a:Option Addr} {n c:Nat} {L:List Value} {M':Mem} (h:NewSl M E s a n c L M'):Wr M' E s a n c L:=by
 rw[newSl_iff] at h
 obtain⟨_,h1,h2,h3⟩:=h
 exact⟨h1,h2,h3.imp id fun ⟨b,cs,ha,_,hr⟩=>⟨b,cs,ha,hr⟩⟩
theorem Wr.mono {M M':Mem} {E:TypeId} {s:Nat} {a:Option Addr} {n c:Nat} {L:List Value} (h:Wr M E s a n c L) (hk:∀ p o,a=some p→M p.block=some o→M' p.block=some o):Wr M' E s a n c L:=by
 obtain⟨h1,h2,h3⟩:=h
 exact⟨h1,h2,h3.imp id fun ⟨b,cs,ha,hh,hr⟩=>⟨b,cs,ha,hk _ _ ha hh,hr⟩⟩
theorem Wr.le {M M':Mem} {E:TypeId} {s:Nat} {a:Option Addr} {n c:Nat} {L:List Value} (h:Wr M E s a n c L) (hle:M.le M'):Wr M' E s a n c L:=h.mono fun _ _ _=>hle _ _
def Elems {α:Type} (M:Mem) (s:Nat) (a:Option Addr) (n:Nat) (R:List Value→α→Prop) (l:List α):Prop:=
 ∃ css:List (List Value),SrcOk M s a n css.flatten∧css.length=n∧l.length=n∧(∀ cs∈css,cs.length=s)∧∀ (i:Nat) cs x,css[i]? = some cs→l[i]? = some x→R cs x
theorem zrV {α:Type} {s:Nat}:∀ {css:List (List α)} (_:∀ cs∈css,cs.length=s) {i:Nat} {cs:List α} (_:css[i]? = some cs),(css.flatten.drop (i*s)).take s=cs
 | [],_,i,cs,hi=>by simp at hi
 | c::r,h,0,cs,hi=>by
  simp at hi;subst hi
  have:c.length=s:=h c (by simp)
  simp[←this]
 | c::r,h,i+1,cs,hi=>by
  have hc:c.length=s:=h c (by simp)
  simp only[List.flatten_cons]
  rw[Nat.succ_mul,Nat.add_comm,←List.drop_drop,show (c++r.flatten).drop s=r.flatten by rw[←hc];simp]
  exact zrV (fun cs hcs=>h cs (List.mem_cons_of_mem _ hcs)) (by simpa using hi)
theorem Elems.nil {α:Type} (M:Mem) (s:Nat) (R:List Value→α→Prop):Elems M s Option.none 0 R []:=⟨[],SrcOk.nil M s,rfl,rfl,by simp,by simp⟩
def zm5 {α:Type} (M:Mem) (E:TypeId) (s:Nat) (a:Option Addr) (n c:Nat) (R:List Value→α→Prop) (l:List α) (M':Mem):Prop:=
 ∃ css:List (List Value),NewSl M E s a n c css.flatten M'∧css.length=n∧l.length=n∧(∀ cs∈css,cs.length=s)∧∀ (i:Nat) cs x,css[i]? = some cs→l[i]? = some x→R cs x
def blk (a:Option Addr):Nat→Prop:=fun x=>∃ q,a=some q∧q.block=x
theorem appK {E:TypeId} {size bytes:Nat} {a:Option Addr} {n c m:Nat} {news:List Value} {M:Mem} {k:Option Addr→Nat→Mem→Prop} (M0:Mem) (L:List Value) (hown:NewSl M0 E size a n c L M)
  (h1:(n+m)*bytes≤140737488355328) (h2:n+m≤maxLen) (h3:∀ u∈news,u.oneCell'=true) (hk:∀ a' c' M',NewSl M0 E size a' (n+m) c' (L++news) M'→Mem.keep (blk a) M M'→k a' c' M'):zix E size bytes a n c m news M k:=by
 rw[newSl_iff] at hown
 obtain⟨h0,h4,h5,⟨ha,hc⟩|⟨b,cs,ha,hb,hh,hl,ht⟩⟩:=hown
 ·refine app M L ⟨h4,h5,.inl ⟨ha,hc,rfl⟩⟩ h1 h2 h3 fun a' c' M' ho=>hk a' c' M' ⟨M,h0,ho⟩ (Mem.keep_of_le ho.base)
 ·refine app (fun x=>if x=b then Option.none else M x) L ⟨h4,h5,.inr ⟨b,cs,ha,by simp,?_,hl,ht⟩⟩ h1 h2 h3 fun a' c' M' ho=>hk a' c' M' ⟨_,?_,ho⟩ ?_
  ·funext x
   simp only[Mem.setCells,Mem.upd]
   split
   ·rename_i e;subst e;exact hh
   ·rfl
  ·intro x o hx
   have hne:x≠b:=fun e=>by subst e;rw[hb] at hx;cases hx
   simp only[if_neg hne]
   exact h0 x o hx
  ·intro x o hn hx
   have hne:x≠b:=fun e=>hn ⟨_,ha,e.symm⟩
   exact ho.base x o (by simp only[if_neg hne];exact hx)
end Go.Vm
namespace Go.Vm
open Classical in
noncomputable def Mem.minus (M:Mem) (S:Nat→Prop):Mem:=fun x=>if S x then none else M x
theorem Mem.minus_le (M:Mem) (S:Nat→Prop):(M.minus S).le M:=fun b o h=>by unfold Mem.minus at h;split at h;cases h;exact h
theorem Mem.minus_in {M:Mem} {S:Nat→Prop} {b:Nat} (h:S b):M.minus S b=none:=by unfold Mem.minus;rw[if_pos h]
end Go.Vm
namespace Go.Vm
theorem Wr.block {M:Mem} {E:TypeId} {s:Nat} {a:Option Addr} {n c:Nat} {L:List Value} (h:Wr M E s a n c L) {q:Addr} (ha:a=some q):∃ cs,M.has q.block E cs:=by
 obtain⟨_,_,⟨h3,_⟩|⟨b,cs,hab,hh,_⟩⟩:=h
 ·rw[h3] at ha;cases ha
 ·rw[hab] at ha;cases ha;exact⟨cs,hh⟩
end Go.Vm
namespace Go.Vm
end Go.Vm
namespace Go.Vm
end Go.Vm
namespace Go.Vm
end Go.Vm
namespace Go.Vm
end Go.Vm
namespace Go.Vm
end Go.Vm
namespace Go.Vm
end Go.Vm
namespace Go.Vm
theorem zR {A B:Prop} (a:A) (k:A→B:=by intro a;(repeat' ((conv=>whnf);first|refine⟨?_,True.intro⟩|refine Go.Vm.brn_t rfl ?_|refine Go.Vm.brn_f rfl ?_|refine Go.Vm.ob rfl ?_|refine Go.Vm.ob (by decide) ?_|refine Go.Vm.grow_same (Go.Vm.Mem.le_refl _) ?_|refine Go.Vm.ob (Go.Vm.Mem.le_refl _) ?_|refine⟨_,Go.Vm.Mem.le_refl _,?_⟩|fail));exact a):B:=k a
end Go.Vm
namespace Go.Proofs.YtdogcflaekkdkaaGreat
open Go.Vm Go.Vm.S
section
def zDy (i:Nat):List Nat:=match i with|0=>[0,2]|1=>[1,3,4,5,6,7,8,9,10]|_=>[]
def zxk (i:Nat):List Nat:=match i with|0=>[0,2]|2=>[6,7,8,9,10,11,12,13,14]|3=>[1,3,4,5,15,16,17,18,19,20,21,22,23,24,25,26,27,28,29,30,31,32,33,34,35,36,37,38,39,40,41,42,43,44,45,46,47,48,49,50,51,52,53,54,55,56,57,58,59,60,61,62,63,64,65,66,67,68,69,70,71,72,73,74,75,76,77,78,79,80,81,82,83,84,85,86,87,88,89,90,91,92,93,94,95]|_=>[]
def zxl:RCode := .seq (.ops [o 1 (.box 61 (t 0)),mv 2 (kb false)] [0,2]) (.seq (.ops [mv 3 (.const (.pointer none))] []) (.seq (.ops [mv 7 (t 3),fa 8 1 (t 1),l1 9 (t 8),fa 10 3 (t 1),l1 11 (t 10),ca 12 F.zao [(t 7),(t 9),(t 11)],mv 6 (t 12),ex 13 (t 6) 0,ex 14 (t 6) 1,o 4 (.alloc 37 [(i 0),(i 0),(i 0),(i 0)]),st 4 (t 4) (t 13),mv 5 (t 14)] [6,7,8,9,10,11,12,13,14]) (.seq (.ops [la 15 4 (t 4),o 16 (.build [(i 0),(i 0),(i 0),(i 0)] []),o 17 (.aeq .eql 4 (t 15) (t 16)),os 18 (.mov (t 17)),gt 18 19 (.mov (t 5)),gt 18 20 (.ibin .eql (t 19) (k 7)),o 21 (.pick (t 18) (t 20) (kb false)),os 22 (.mov (t 21)),gt 22 23 (.mov (t 3)),gt 22 24 (.call (fn F.zi) [(t 23)]),gt 22 25 (.ibin .eql (t 24) (k 7)),o 26 (.pick (t 22) (t 25) (kb false)),os 27 (.mov (t 26)),gt 27 28 (.mov (t 3)),gt 27 29 (.faddr 1 (t 1)),gt 27 30 (.load false 1 (t 29)),gt 27 31 (.faddr 3 (t 1)),gt 27 32 (.load false 1 (t 31)),gt 27 33 (.call (fn F.zQ) [(t 28),(t 30),(t 32)]),gt 27 34 (.ibin .eql (t 33) (k 7)),o 35 (.pick (t 27) (t 34) (kb false)),os 36 (.mov (t 35)),gt 36 37 (.mov (t 3)),gt 36 38 (.call (fn F.zdo) [(t 37)]),gt 36 39 (.ibin .eql (t 38) (k 7)),o 40 (.pick (t 36) (t 39) (kb false)),os 41 (.mov (t 40)),gt 41 42 (.mov (t 3)),gt 41 43 (.faddr 1 (t 1)),gt 41 44 (.load false 1 (t 43)),gt 41 45 (.faddr 2 (t 1)),gt 41 46 (.load false 1 (t 45)),gt 41 47 (.call (fn F.zeZ) [(t 42),(t 44),(t 46)]),gt 41 48 (.ibin .eql (t 47) (k 7)),o 49 (.pick (t 41) (t 48) (kb false)),os 50 (.mov (t 49)),gt 50 51 (.mov (t 3)),gt 50 52 (.faddr 1 (t 1)),gt 50 53 (.load false 1 (t 52)),gt 50 54 (.call (fn F.z8) [(t 51),(t 53)]),gt 50 55 (.len (t 54)),gt 50 56 (.ibin .eql (t 55) (k 0)),o 57 (.pick (t 50) (t 56) (kb false)),os 58 (.mov (t 57)),gt 58 59 (.mov (t 3)),gt 58 60 (.call (fn F.zU) [(t 59)]),gt 58 61 (.len (t 60)),gt 58 62 (.ibin .eql (t 61) (k 0)),o 63 (.pick (t 58) (t 62) (kb false)),os 64 (.mov (t 63)),gt 64 65 (.mov (t 3)),gt 64 66 (.call (fn F.zae) [(t 65)]),gt 64 67 (.build [(i 0),(i 0),sn,sn,sn] []),gt 64 68 (.call (fn F.zby) [(t 66),(t 67)]),o 69 (.pick (t 64) (t 68) (kb false)),os 70 (.mov (t 69)),gt 70 71 (.mov (t 3)),gt 70 72 (.faddr 1 (t 1)),gt 70 73 (.load false 1 (t 72)),gt 70 74 (.call (fn F.zfF) [(t 71),(t 73)]),gt 70 75 (.not (t 74)),o 76 (.pick (t 70) (t 75) (kb false)),os 77 (.mov (t 76)),gt 77 78 (.mov (t 3)),gt 77 79 (.faddr 1 (t 1)),gt 77 80 (.load false 1 (t 79)),gt 77 81 (.call (fn F.zf3) [(t 78),(t 80)]),gt 77 82 (.ibin .eql (t 81) (k 16)),o 83 (.pick (t 77) (t 82) (kb false)),os 84 (.mov (t 83)),gt 84 85 (.mov (t 3)),gt 84 86 (.call (fn F.zee) [(t 85)]),gt 84 87 (.ibin .eql (t 86) (k 0)),o 88 (.pick (t 84) (t 87) (kb false)),os 89 (.mov (t 88)),gt 89 90 (.mov (t 3)),gt 89 91 (.call (fn F.zf4) [(t 90)]),o 92 (.pick (t 89) (t 91) (kb false)),os 93 (.mov (t 92)),gt 93 94 (.call (fn F.za8) []),o 95 (.pick (t 93) (t 94) (kb false)),mv 2 (t 95)] [1,3,4,5,15,16,17,18,19,20,21,22,23,24,25,26,27,28,29,30,31,32,33,34,35,36,37,38,39,40,41,42,43,44,45,46,47,48,49,50,51,52,53,54,55,56,57,58,59,60,61,62,63,64,65,66,67,68,69,70,71,72,73,74,75,76,77,78,79,80,81,82,83,84,85,86,87,88,89,90,91,92,93,94,95]) (.ret))))
def zxm:List zd:=[.tmp 2]
theorem zvJ {args:List Value} {M:Mem} {R:Value→Mem→Prop} (hn:args.length≤96) (h:zh Tryz.prog zxl zxm args M R):CallsM Tryz.prog F.zlq args M R:=zg (kf:=zxk) Tryz.func5 (by kernel_rfl) (by kernel_rfl) hn (by kernel_rfl) h
def zsY (i:Nat):List Nat:=match i with|0=>[7]|1=>[11,12]|2=>[13]|3=>[8,15,16]|4=>[1,2,17,18,19,20,21,22,23,24,25,26]|5=>[0,27,28]|6=>[9,10,29,30]|_=>[]
def zsZ:RCode := .seq (.ops [o 6 (.alloc 37 [(i 0),(i 0),(i 0),(i 0)]),mv 7 (k 0)] [7]) (.seq (.seq (.ops [mv 11 (t 0),ca 12 F.zr [(t 11)],mv 8 (t 12)] [11,12]) (.seq (.ops [mv 13 (t 8),o 14 (.ibin .neq (t 13) (k 0))] [13]) (.cond (t 14) (.seq (.ops [o 15 (.build [(i 0),(i 0),(i 0),(i 0)] []),mv 16 (t 8),st 4 (t 6) (t 15),mv 7 (t 16)] [8,15,16]) (.ret)) (.skip)))) (.seq (.ops [mv 18 (t 0),o 19 (.nilck (t 18)),fa 20 11 (t 19),l1 21 (t 20),mv 22 (t 1),mv 23 (t 2),ca 24 F.zbm [(t 21),(t 22),(t 23)],mv 17 (t 24),ex 25 (t 17) 0,ex 26 (t 17) 1,o 9 (.alloc 37 [(i 0),(i 0),(i 0),(i 0)]),st 4 (t 9) (t 25),mv 10 (t 26)] [1,2,17,18,19,20,21,22,23,24,25,26]) (.seq (.ops [mv 27 (t 0),ca 28 F.zE [(t 27)]] [0,27,28]) (.seq (.ops [la 29 4 (t 9),mv 30 (t 10),st 4 (t 6) (t 29),mv 7 (t 30)] [9,10,29,30]) (.ret)))))
def zs0:List zd:=[.cell true 4 6,.tmp 7]
theorem zrX {args:List Value} {M:Mem} {R:Value→Mem→Prop} (hn:args.length≤31) (h:zh Tryz.prog zsZ zs0 args M R):CallsM Tryz.prog F.zao args M R:=zg (kf:=zsY) Tryz.func12 (by kernel_rfl) (by kernel_rfl) hn (by kernel_rfl) h
def zvK (i:Nat):List Nat:=match i with|0=>[4]|1=>[6,7,8,9,10,11,12,13,14,15]|3=>[17,18,19,20,21,22,23,24,25]|4=>[0,1,26,27,28,29,30,31,32,33]|5=>[5,34]|_=>[]
def zvL:RCode := .seq (.ops [mv 4 (.const sn)] [4]) (.seq (.seq (.ops [mv 6 (t 0),o 7 (.pnil .eql (t 6) (.const (.pointer none))),os 8 (.mov (t 7)),gf 8 9 (.mov (t 0)),gf 8 10 (.nilck (t 9)),gf 8 11 (.faddr 12 (t 10)),gf 8 12 (.load false 1 (t 11)),gf 8 13 (.mov (t 1)),gf 8 14 (.mget .int false (.pointer none) (t 12) (t 13)),gf 8 15 (.pnil .eql (t 14) (.const (.pointer none))),o 16 (.pick (t 8) (kb true) (t 15))] [6,7,8,9,10,11,12,13,14,15]) (.cond (t 16) (.seq (.ops [mv 4 (.const sn)] []) (.ret)) (.skip))) (.seq (.ops [mv 17 (t 0),o 18 (.nilck (t 17)),fa 19 12 (t 18),l1 20 (t 19),mv 21 (t 1),o 22 (.mget .int false (.pointer none) (t 20) (t 21)),o 23 (.nilck (t 22)),fa 24 3 (t 23),l1 25 (t 24),mv 5 (t 25)] [17,18,19,20,21,22,23,24,25]) (.seq (.ops [mv 26 (t 0),o 27 (.nilck (t 26)),fa 28 12 (t 27),l1 29 (t 28),mv 30 (t 1),o 31 (.mget .int false (.pointer none) (t 29) (t 30)),o 32 (.nilck (t 31)),fa 33 3 (t 32),st 1 (t 33) (.const sn)] [0,1,26,27,28,29,30,31,32,33]) (.seq (.ops [mv 34 (t 5),mv 4 (t 34)] [5,34]) (.ret)))))
def zvM:List zd:=[.tmp 4]
theorem zuf {args:List Value} {M:Mem} {R:Value→Mem→Prop} (hn:args.length≤35) (h:zh Tryz.prog zvL zvM args M R):CallsM Tryz.prog F.z8 args M R:=zg (kf:=zvK) Tryz.func13 (by kernel_rfl) (by kernel_rfl) hn (by kernel_rfl) h
def zug (i:Nat):List Nat:=match i with|1=>[3]|2=>[5]|3=>[0,6,7,8,9,10]|_=>[]
def zuh:RCode := .seq (.ops [o 2 (.alloc 52 [(i 0),(i 0),sn,sn,sn])] []) (.seq (.seq (.ops [mv 3 (t 0),o 4 (.pnil .eql (t 3) (.const (.pointer none)))] [3]) (.cond (t 4) (.seq (.ops [o 5 (.build [(i 0),(i 0),sn,sn,sn] []),st 5 (t 2) (t 5)] [5]) (.ret)) (.skip))) (.seq (.ops [mv 6 (t 0),o 7 (.nilck (t 6)),fa 8 11 (t 7),l1 9 (t 8),ca 10 F.zaT [(t 9)],st 5 (t 2) (t 10)] [0,6,7,8,9,10]) (.ret)))
def zui:List zd:=[.cell true 5 2]
theorem zs1 {args:List Value} {M:Mem} {R:Value→Mem→Prop} (hn:args.length≤11) (h:zh Tryz.prog zuh zui args M R):CallsM Tryz.prog F.zae args M R:=zg (kf:=zug) Tryz.func15 (by kernel_rfl) (by kernel_rfl) hn (by kernel_rfl) h
def zrY (i:Nat):List Nat:=match i with|0=>[6]|1=>[15,16]|2=>[17]|3=>[7,19]|4=>[20,21,22,23,24,25]|5=>[26]|7=>[2,28,29,30,31,32]|9=>[37,38]|10=>[10,39,40,41,42,43]|11=>[12,44]|12=>[46,47,48,49,50,51,52]|13=>[11,53,54,55,56,57,58]|14=>[59,60,61,62]|16=>[67,68]|17=>[69,70,71,72,73]|18=>[14,75,76,77,78]|19=>[79]|20=>[80]|21=>[81,82]|22=>[0,83,84]|_=>[]
def zrZ:RCode := .seq (.ops [mv 6 (k 0)] [6]) (.seq (.seq (.ops [mv 15 (t 0),ca 16 F.zr [(t 15)],mv 7 (t 16)] [15,16]) (.seq (.ops [mv 17 (t 7),o 18 (.ibin .neq (t 17) (k 0))] [17]) (.cond (t 18) (.seq (.ops [mv 19 (t 7),mv 6 (t 19)] [7,19]) (.ret)) (.skip)))) (.seq (.ops [mv 20 (t 0),o 21 (.nilck (t 20)),fa 22 12 (t 21),l1 23 (t 22),mv 24 (t 1),o 25 (.mget .int false (.pointer none) (t 23) (t 24)),mv 8 (t 25)] [20,21,22,23,24,25]) (.seq (.seq (.ops [mv 26 (t 8),o 27 (.pnil .eql (t 26) (.const (.pointer none)))] [26]) (.cond (t 27) (.seq (.ops [mv 6 (k 4)] []) (.ret)) (.skip))) (.seq (.seq (.ops [mv 28 (t 8),o 29 (.nilck (t 28)),fa 30 1 (t 29),l1 31 (t 30),mv 32 (t 2),ca 33 F.zdp [(t 31),(t 32)],o 34 (.len (t 33)),mv 35 (k 0)] [2,28,29,30,31,32]) (.block 0 (.loop (.seq (.ops [o 36 (.ibin .lss (t 35) (t 34))] []) (.seq (.cond (t 36) (.skip) (.exit 0)) (.seq (.block 1 (.seq (.ops [o 37 (.iaddr 1 (t 33) (t 35)),l1 38 (t 37),mv 10 (t 38)] [37,38]) (.seq (.ops [mv 40 (t 10),ca 41 F.zj5 [(t 40)],mv 39 (t 41),ex 42 (t 39) 0,ex 43 (t 39) 1,o 11 (.alloc 101 [(i 0),(i 0),(i 0),(.bool false),(i 0),(i 0),sn]),st 7 (t 11) (t 42),mv 12 (t 43)] [10,39,40,41,42,43]) (.seq (.seq (.ops [mv 44 (t 12),o 45 (.ibin .neq (t 44) (k 0))] [12,44]) (.cond (t 45) (.seq (.ops [mv 46 (t 0),o 47 (.nilck (t 46)),fa 48 17 (t 47),l1 49 (t 48),ad 50 (t 49) (k 1),o 51 (.nilck (t 46)),fa 52 17 (t 51),st 1 (t 52) (t 50)] [46,47,48,49,50,51,52]) (.exit 1)) (.skip))) (.seq (.draw (.take (mv 53 (t 8)) (.take (o 54 (.nilck (t 53))) (.take (fa 55 0 (t 54)) (.take (l1 56 (t 55)) (.take (la 57 7 (t 11)) (.alt (ca 58 F.zdq [(t 56),(t 57)]) false (.done) (.none))))))) [11,53,54,55,56,57,58]) (.seq (.ops [mv 59 (t 8),o 60 (.nilck (t 59)),fa 61 0 (t 60),l1 62 (t 61),ca 63 F.ziB [(t 62)],o 64 (.len (t 63)),mv 65 (k 0)] [59,60,61,62]) (.block 2 (.loop (.seq (.ops [o 66 (.ibin .lss (t 65) (t 64))] []) (.seq (.cond (t 66) (.skip) (.exit 2)) (.seq (.block 3 (.seq (.ops [o 67 (.iaddr 1 (t 63) (t 65)),l1 68 (t 67),mv 14 (t 68)] [67,68]) (.seq (.ops [mv 69 (t 0),o 70 (.nilck (t 69)),fa 71 11 (t 70),l1 72 (t 71),ca 73 F.zw [(t 72)],o 74 (.not (t 73))] [69,70,71,72,73]) (.cond (t 74) (.ops [mv 75 (t 0),mv 76 (t 1),mv 77 (t 14),ca 78 F.zf5 [(t 75),(t 76),(t 77)]] [14,75,76,77,78]) (.skip))))) (.ops [ad 79 (t 65) (k 1),mv 65 (t 79)] [79])))))))))))) (.ops [ad 80 (t 35) (k 1),mv 35 (t 80)] [80]))))))) (.seq (.ops [mv 81 (t 0),ca 82 F.zE [(t 81)]] [81,82]) (.seq (.ops [mv 83 (t 0),ca 84 F.zr [(t 83)],mv 6 (t 84)] [0,83,84]) (.ret)))))))
def zr0:List zd:=[.tmp 6]
theorem zri {args:List Value} {M:Mem} {R:Value→Mem→Prop} (hn:args.length≤85) (h:zh Tryz.prog zrZ zr0 args M R):CallsM Tryz.prog F.zQ args M R:=zg (kf:=zrY) Tryz.func16 (by kernel_rfl) (by kernel_rfl) hn (by kernel_rfl) h
def zqp (i:Nat):List Nat:=match i with|0=>[2]|1=>[4]|3=>[6,7,8,9]|4=>[0,10,11,12]|5=>[3,13]|_=>[]
def zqq:RCode := .seq (.ops [mv 2 (.const sn)] [2]) (.seq (.seq (.ops [mv 4 (t 0),o 5 (.pnil .eql (t 4) (.const (.pointer none)))] [4]) (.cond (t 5) (.seq (.ops [mv 2 (.const sn)] []) (.ret)) (.skip))) (.seq (.ops [mv 6 (t 0),o 7 (.nilck (t 6)),fa 8 15 (t 7),l1 9 (t 8),mv 3 (t 9)] [6,7,8,9]) (.seq (.ops [mv 10 (t 0),o 11 (.nilck (t 10)),fa 12 15 (t 11),st 1 (t 12) (.const sn)] [0,10,11,12]) (.seq (.ops [mv 13 (t 3),mv 2 (t 13)] [3,13]) (.ret)))))
def zqr:List zd:=[.tmp 2]
theorem zpR {args:List Value} {M:Mem} {R:Value→Mem→Prop} (hn:args.length≤14) (h:zh Tryz.prog zqq zqr args M R):CallsM Tryz.prog F.zU args M R:=zg (kf:=zqp) Tryz.func18 (by kernel_rfl) (by kernel_rfl) hn (by kernel_rfl) h
def zyr (i:Nat):List Nat:=match i with|0=>[4]|1=>[0,1,5,6,7,8,9,10,11,12,13,14,15,16,17,18,19,20,21,22,23,24,25,26,27]|_=>[]
def zys:RCode := .seq (.ops [mv 4 (kb false)] [4]) (.seq (.ops [mv 5 (t 0),o 6 (.pnil .neq (t 5) (.const (.pointer none))),os 7 (.mov (t 6)),gt 7 8 (.mov (t 0)),gt 7 9 (.nilck (t 8)),gt 7 10 (.faddr 12 (t 9)),gt 7 11 (.load false 1 (t 10)),gt 7 12 (.mov (t 1)),gt 7 13 (.mget .int false (.pointer none) (t 11) (t 12)),gt 7 14 (.pnil .neq (t 13) (.const (.pointer none))),o 15 (.pick (t 7) (t 14) (kb false)),os 16 (.mov (t 15)),gt 16 17 (.mov (t 0)),gt 16 18 (.nilck (t 17)),gt 16 19 (.faddr 12 (t 18)),gt 16 20 (.load false 1 (t 19)),gt 16 21 (.mov (t 1)),gt 16 22 (.mget .int false (.pointer none) (t 20) (t 21)),gt 16 23 (.nilck (t 22)),gt 16 24 (.faddr 0 (t 23)),gt 16 25 (.load false 1 (t 24)),gt 16 26 (.call (fn F.zbR) [(t 25)]),o 27 (.pick (t 16) (t 26) (kb false)),mv 4 (t 27)] [0,1,5,6,7,8,9,10,11,12,13,14,15,16,17,18,19,20,21,22,23,24,25,26,27]) (.ret))
def zyt:List zd:=[.tmp 4]
theorem zxn {args:List Value} {M:Mem} {R:Value→Mem→Prop} (hn:args.length≤28) (h:zh Tryz.prog zys zyt args M R):CallsM Tryz.prog F.zfF args M R:=zg (kf:=zyr) Tryz.func19 (by kernel_rfl) (by kernel_rfl) hn (by kernel_rfl) h
def zxo (i:Nat):List Nat:=match i with|0=>[2]|1=>[3]|3=>[0,5,6,7,8]|_=>[]
def zxp:RCode := .seq (.ops [mv 2 (k 0)] [2]) (.seq (.seq (.ops [mv 3 (t 0),o 4 (.pnil .eql (t 3) (.const (.pointer none)))] [3]) (.cond (t 4) (.seq (.ops [mv 2 (k 0)] []) (.ret)) (.skip))) (.seq (.ops [mv 5 (t 0),o 6 (.nilck (t 5)),fa 7 17 (t 6),l1 8 (t 7),mv 2 (t 8)] [0,5,6,7,8]) (.ret)))
def zxq:List zd:=[.tmp 2]
theorem zvN {args:List Value} {M:Mem} {R:Value→Mem→Prop} (hn:args.length≤9) (h:zh Tryz.prog zxp zxq args M R):CallsM Tryz.prog F.zee args M R:=zg (kf:=zxo) Tryz.func20 (by kernel_rfl) (by kernel_rfl) hn (by kernel_rfl) h
def zvO (i:Nat):List Nat:=match i with|0=>[2]|1=>[8,9]|2=>[10]|3=>[3,12]|4=>[13,14,15,16,17,18,19]|5=>[20,21,22,23,24]|6=>[25]|8=>[30,31]|9=>[5,32,33,34,35,36,37,38,39,40,41]|10=>[42]|11=>[43,44,45,46,47]|12=>[48,49,50,51,52,53,54,55,56,57]|13=>[59]|15=>[64,65]|16=>[66,67,68,69,70,71,72,73,74]|17=>[7,76,77,78,79,80,81,82,83,84,85]|18=>[86]|19=>[0,87,88]|_=>[]
def zvP:RCode := .seq (.ops [mv 2 (k 0)] [2]) (.seq (.seq (.ops [mv 8 (t 0),ca 9 F.zr [(t 8)],mv 3 (t 9)] [8,9]) (.seq (.ops [mv 10 (t 3),o 11 (.ibin .neq (t 10) (k 0))] [10]) (.cond (t 11) (.seq (.ops [mv 12 (t 3),mv 2 (t 12)] [3,12]) (.ret)) (.skip)))) (.seq (.ops [mv 13 (t 0),o 14 (.nilck (t 13)),fa 15 16 (t 14),l1 16 (t 15),ad 17 (t 16) (k 1),o 18 (.nilck (t 13)),fa 19 16 (t 18),st 1 (t 19) (t 17)] [13,14,15,16,17,18,19]) (.seq (.ops [mv 20 (t 0),o 21 (.nilck (t 20)),fa 22 13 (t 21),l1 23 (t 22),ca 24 F.zdr [(t 23)]] [20,21,22,23,24]) (.seq (.seq (.ops [mv 25 (t 0),ca 26 F.zaN [(t 25)],o 27 (.len (t 26)),mv 28 (k 0)] [25]) (.block 0 (.loop (.seq (.ops [o 29 (.ibin .lss (t 28) (t 27))] []) (.seq (.cond (t 29) (.skip) (.exit 0)) (.seq (.block 1 (.seq (.ops [o 30 (.iaddr 1 (t 26) (t 28)),l1 31 (t 30),mv 5 (t 31)] [30,31]) (.ops [mv 32 (t 0),o 33 (.nilck (t 32)),fa 34 12 (t 33),l1 35 (t 34),mv 36 (t 5),o 37 (.mget .int false (.pointer none) (t 35) (t 36)),o 38 (.nilck (t 37)),fa 39 0 (t 38),l1 40 (t 39),ca 41 F.zf6 [(t 40)]] [5,32,33,34,35,36,37,38,39,40,41]))) (.ops [ad 42 (t 28) (k 1),mv 28 (t 42)] [42]))))))) (.seq (.ops [mv 43 (t 0),o 44 (.nilck (t 43)),fa 45 14 (t 44),l1 46 (t 45),ca 47 F.zhq [(t 46)]] [43,44,45,46,47]) (.seq (.seq (.draw (.take (mv 48 (t 0)) (.take (o 49 (.nilck (t 48))) (.take (fa 50 16 (t 49)) (.take (l1 51 (t 50)) (.take (mv 52 (t 0)) (.take (o 53 (.nilck (t 52))) (.take (fa 54 1 (t 53)) (.take (fa 55 6 (t 54)) (.take (l1 56 (t 55)) (.take (o 57 (.ibin .rem (t 51) (t 56))) (.take (o 58 (.ibin .eql (t 57) (k 0))) (.done)))))))))))) [48,49,50,51,52,53,54,55,56,57]) (.cond (t 58) (.seq (.ops [mv 59 (t 0),ca 60 F.zaN [(t 59)],o 61 (.len (t 60)),mv 62 (k 0)] [59]) (.block 2 (.loop (.seq (.ops [o 63 (.ibin .lss (t 62) (t 61))] []) (.seq (.cond (t 63) (.skip) (.exit 2)) (.seq (.block 3 (.seq (.ops [o 64 (.iaddr 1 (t 60) (t 62)),l1 65 (t 64),mv 7 (t 65)] [64,65]) (.seq (.ops [mv 66 (t 0),o 67 (.nilck (t 66)),fa 68 12 (t 67),l1 69 (t 68),mv 70 (t 7),o 71 (.mget .int false (.pointer none) (t 69) (t 70)),o 72 (.nilck (t 71)),fa 73 0 (t 72),l1 74 (t 73),ca 75 F.zbR [(t 74)]] [66,67,68,69,70,71,72,73,74]) (.cond (t 75) (.ops [mv 76 (t 0),mv 77 (t 7),mv 78 (t 0),o 79 (.nilck (t 78)),fa 80 13 (t 79),l1 81 (t 80),mv 82 (t 7),ca 83 F.zcl [(t 81),(t 82)],o 84 (.build [(i 0),(i 0),(i 0),(i 0),(i 0),(i 0),sn,sn] [(0,1,(k 4)),(7,1,(t 83))]),ca 85 F.zbS [(t 76),(t 77),(t 84)]] [7,76,77,78,79,80,81,82,83,84,85]) (.skip))))) (.ops [ad 86 (t 62) (k 1),mv 62 (t 86)] [86]))))))) (.skip))) (.seq (.ops [mv 87 (t 0),ca 88 F.zE [(t 87)]] [0,87,88]) (.seq (.ops [mv 2 (k 0)] []) (.ret)))))))))
def zvQ:List zd:=[.tmp 2]
theorem zuj {args:List Value} {M:Mem} {R:Value→Mem→Prop} (hn:args.length≤89) (h:zh Tryz.prog zvP zvQ args M R):CallsM Tryz.prog F.zi args M R:=zg (kf:=zvO) Tryz.func21 (by kernel_rfl) (by kernel_rfl) hn (by kernel_rfl) h
def zr1 (i:Nat):List Nat:=match i with|0=>[2]|1=>[5,6]|2=>[7]|3=>[3,9]|4=>[10,11,12,13,14]|5=>[0,15,16]|6=>[4,17]|_=>[]
def zr2:RCode := .seq (.ops [mv 2 (k 0)] [2]) (.seq (.seq (.ops [mv 5 (t 0),ca 6 F.zr [(t 5)],mv 3 (t 6)] [5,6]) (.seq (.ops [mv 7 (t 3),o 8 (.ibin .neq (t 7) (k 0))] [7]) (.cond (t 8) (.seq (.ops [mv 9 (t 3),mv 2 (t 9)] [3,9]) (.ret)) (.skip)))) (.seq (.ops [mv 10 (t 0),o 11 (.nilck (t 10)),fa 12 11 (t 11),l1 13 (t 12),ca 14 F.zhr [(t 13)],mv 4 (t 14)] [10,11,12,13,14]) (.seq (.ops [mv 15 (t 0),ca 16 F.zE [(t 15)]] [0,15,16]) (.seq (.ops [mv 17 (t 4),mv 2 (t 17)] [4,17]) (.ret)))))
def zr3:List zd:=[.tmp 2]
theorem zrj {args:List Value} {M:Mem} {R:Value→Mem→Prop} (hn:args.length≤18) (h:zh Tryz.prog zr2 zr3 args M R):CallsM Tryz.prog F.zdo args M R:=zg (kf:=zr1) Tryz.func22 (by kernel_rfl) (by kernel_rfl) hn (by kernel_rfl) h
def zuk (i:Nat):List Nat:=match i with|0=>[6]|1=>[9,10]|2=>[11]|3=>[7,13]|4=>[1,2,14,15,16,17,18,19,20]|5=>[0,21,22]|6=>[8,23]|_=>[]
def zul:RCode := .seq (.ops [mv 6 (k 0)] [6]) (.seq (.seq (.ops [mv 9 (t 0),ca 10 F.zr [(t 9)],mv 7 (t 10)] [9,10]) (.seq (.ops [mv 11 (t 7),o 12 (.ibin .neq (t 11) (k 0))] [11]) (.cond (t 12) (.seq (.ops [mv 13 (t 7),mv 6 (t 13)] [7,13]) (.ret)) (.skip)))) (.seq (.ops [mv 14 (t 0),o 15 (.nilck (t 14)),fa 16 13 (t 15),l1 17 (t 16),mv 18 (t 1),mv 19 (t 2),ca 20 F.zm1 [(t 17),(t 18),(t 19)],mv 8 (t 20)] [1,2,14,15,16,17,18,19,20]) (.seq (.ops [mv 21 (t 0),ca 22 F.zE [(t 21)]] [0,21,22]) (.seq (.ops [mv 23 (t 8),mv 6 (t 23)] [8,23]) (.ret)))))
def zum:List zd:=[.tmp 6]
theorem zs2 {args:List Value} {M:Mem} {R:Value→Mem→Prop} (hn:args.length≤24) (h:zh Tryz.prog zul zum args M R):CallsM Tryz.prog F.zeZ args M R:=zg (kf:=zuk) Tryz.func23 (by kernel_rfl) (by kernel_rfl) hn (by kernel_rfl) h
def zvR (i:Nat):List Nat:=match i with|0=>[4]|1=>[5]|3=>[0,1,7,8,9,10,11,12]|_=>[]
def zvS:RCode := .seq (.ops [mv 4 (k 0)] [4]) (.seq (.seq (.ops [mv 5 (t 0),o 6 (.pnil .eql (t 5) (.const (.pointer none)))] [5]) (.cond (t 6) (.seq (.ops [mv 4 (k 16)] []) (.ret)) (.skip))) (.seq (.ops [mv 7 (t 0),o 8 (.nilck (t 7)),fa 9 13 (t 8),l1 10 (t 9),mv 11 (t 1),ca 12 F.za4 [(t 10),(t 11)],mv 4 (t 12)] [0,1,7,8,9,10,11,12]) (.ret)))
def zvT:List zd:=[.tmp 4]
theorem zun {args:List Value} {M:Mem} {R:Value→Mem→Prop} (hn:args.length≤13) (h:zh Tryz.prog zvS zvT args M R):CallsM Tryz.prog F.zf3 args M R:=zg (kf:=zvR) Tryz.func24 (by kernel_rfl) (by kernel_rfl) hn (by kernel_rfl) h
def zvU (i:Nat):List Nat:=match i with|0=>[2]|1=>[0,3,4,5,6,7,8,9,10,11]|_=>[]
def zvV:RCode := .seq (.ops [mv 2 (kb false)] [2]) (.seq (.ops [mv 3 (t 0),o 4 (.pnil .eql (t 3) (.const (.pointer none))),os 5 (.mov (t 4)),gf 5 6 (.mov (t 0)),gf 5 7 (.nilck (t 6)),gf 5 8 (.faddr 11 (t 7)),gf 5 9 (.load false 1 (t 8)),gf 5 10 (.call (fn F.zw) [(t 9)]),o 11 (.pick (t 5) (kb true) (t 10)),mv 2 (t 11)] [0,3,4,5,6,7,8,9,10,11]) (.ret))
def zvW:List zd:=[.tmp 2]
theorem zuo {args:List Value} {M:Mem} {R:Value→Mem→Prop} (hn:args.length≤12) (h:zh Tryz.prog zvV zvW args M R):CallsM Tryz.prog F.zf4 args M R:=zg (kf:=zvU) Tryz.func25 (by kernel_rfl) (by kernel_rfl) hn (by kernel_rfl) h
def zup (i:Nat):List Nat:=match i with|0=>[2]|1=>[3]|3=>[0,5,6,7,8]|_=>[]
def zuq:RCode := .seq (.ops [mv 2 (k 0)] [2]) (.seq (.seq (.ops [mv 3 (t 0),o 4 (.pnil .eql (t 3) (.const (.pointer none)))] [3]) (.cond (t 4) (.seq (.ops [mv 2 (k 7)] []) (.ret)) (.skip))) (.seq (.seq (.ops [mv 5 (t 0),o 6 (.nilck (t 5)),fa 7 11 (t 6),l1 8 (t 7),ca 9 F.zw [(t 8)]] [0,5,6,7,8]) (.cond (t 9) (.seq (.ops [mv 2 (k 9)] []) (.ret)) (.skip))) (.seq (.ops [mv 2 (k 0)] []) (.ret))))
def zur:List zd:=[.tmp 2]
theorem zs3 {args:List Value} {M:Mem} {R:Value→Mem→Prop} (hn:args.length≤10) (h:zh Tryz.prog zuq zur args M R):CallsM Tryz.prog F.zr args M R:=zg (kf:=zup) Tryz.func33 (by kernel_rfl) (by kernel_rfl) hn (by kernel_rfl) h
def zGU (i:Nat):List Nat:=match i with|0=>[4]|1=>[1,8,9,10]|4=>[15,16]|5=>[7,17,18,19,20,21]|6=>[22]|7=>[5,23,24]|_=>[]
def zqs (i:Nat):List Nat:=match i with|0=>[2]|1=>[5]|4=>[0,7,8,9,10,11,12,13,14]|5=>[16]|6=>[4,17,18,19,20]|7=>[3,21]|_=>[]
def zqt:RCode := .seq (.ops [mv 2 (.const sn)] [2]) (.seq (.seq (.ops [mv 5 (t 0),o 6 (.pnil .eql (t 5) (.const (.pointer none)))] [5]) (.cond (t 6) (.seq (.ops [mv 2 (.const sn)] []) (.ret)) (.skip))) (.seq (.ops [o 3 (.alloc 84 [sn])] []) (.seq (.seq (.draw (.take (mv 7 (t 0)) (.take (o 8 (.nilck (t 7))) (.take (fa 9 1 (t 8)) (.take (l1 10 (t 9)) (.take (mv 11 (t 0)) (.take (o 12 (.nilck (t 11))) (.take (fa 13 3 (t 12)) (.take (l1 14 (t 13)) (.alt (ca 15 F.zcI [(t 10),(t 14)]) false (.done) (.none)))))))))) [0,7,8,9,10,11,12,13,14]) (.block 0 (.rfun ((t 15)) [16] (.ops [mv 4 (t 16)] [16]) (.block 1 (.ops [l1 17 (t 3),mv 18 (t 4),o 19 (.mkSl true 3 1 [(i 0)] [(0,1,(t 18))]),o 20 (.app 3 1 8 [(i 0)] (t 17) (t 19)),st 1 (t 3) (t 20)] [4,17,18,19,20]))))) (.seq (.ops [l1 21 (t 3),mv 2 (t 21)] [3,21]) (.ret)))))
def zqu:List zd:=[.tmp 2]
theorem zjS {args:List Value} {M:Mem} {R:Value→Mem→Prop} (hn:args.length≤22) (h:zh Tryz.prog zqt zqu args M R):CallsM Tryz.prog F.zaI args M R:=zg (kf:=zqs) Tryz.func94 (by kernel_rfl) (by kernel_rfl) hn (by kernel_rfl) h
end
section
def zJS (i:Nat):List Nat:=match i with|0=>[2]|1=>[0,3,4,5,6,7,8,9,10,11,12,13,14,15,16,17]|_=>[]
def zzK (i:Nat):List Nat:=match i with|0=>[0,1,4]|1=>[2,3,5]|_=>[]
def zzL:RCode := .seq (.ops [o 2 (.box 3 (t 0)),o 3 (.box 3 (t 1)),mv 4 (.const .nilFunc)] [0,1,4]) (.seq (.ops [o 5 (.mkfn F.zht [(t 3),(t 2)]),mv 4 (t 5)] [2,3,5]) (.ret))
def zzM:List zd:=[.tmp 4]
theorem zyu {args:List Value} {M:Mem} {R:Value→Mem→Prop} (hn:args.length≤6) (h:zh Tryz.prog zzL zzM args M R):CallsM Tryz.prog F.zcI args M R:=zg (kf:=zzK) Tryz.func154 (by kernel_rfl) (by kernel_rfl) hn (by kernel_rfl) h
def zxr (i:Nat):List Nat:=match i with|0=>[2]|1=>[0,3,4]|_=>[]
def zxs:RCode := .seq (.ops [mv 2 (k 0)] [2]) (.seq (.ops [mv 3 (t 0),o 4 (.ibin .and (t 3) (k 127)),mv 2 (t 4)] [0,3,4]) (.ret))
def zxt:List zd:=[.tmp 2]
theorem zvX {args:List Value} {M:Mem} {R:Value→Mem→Prop} (hn:args.length≤5) (h:zh Tryz.prog zxs zxt args M R):CallsM Tryz.prog F.zC args M R:=zg (kf:=zxr) Tryz.func220 (by kernel_rfl) (by kernel_rfl) hn (by kernel_rfl) h
end
section
def zGV (i:Nat):List Nat:=match i with|0=>[6]|1=>[2,10,11]|3=>[0,1,12,13,14,15]|4=>[17]|5=>[7,18,19,20]|6=>[9,22,23,24,25]|7=>[8,26]|_=>[]
def zzN (i:Nat):List Nat:=match i with|0=>[4]|1=>[1,8,9]|3=>[0,10]|4=>[12]|5=>[5,13,14]|6=>[7,16,17,18,19]|7=>[6,20]|_=>[]
def zzO:RCode := .seq (.ops [mv 4 (.const sn)] [4]) (.seq (.ops [mv 8 (t 1),ca 9 F.zcj [(t 8)],o 5 (.alloc 370 [(.bool false),(.bool false),(.bool false),(.bool false),(.bool false),(.bool false),(.bool false),(.bool false),(.bool false),(.bool false),(.bool false),(.bool false),(.bool false),(.bool false),(.bool false),(.bool false),(.bool false),(.bool false),(.bool false),(.bool false),(.bool false),(.bool false),(.bool false),(.bool false),(.bool false),(.bool false),(.bool false),(.bool false),(.bool false),(.bool false),(.bool false),(.bool false),(.bool false),(.bool false),(.bool false),(.bool false),(.bool false),(.bool false),(.bool false),(.bool false),(.bool false),(.bool false),(.bool false),(.bool false),(.bool false),(.bool false),(.bool false),(.bool false),(.bool false),(.bool false),(.bool false),(.bool false),(.bool false),(.bool false),(.bool false),(.bool false),(.bool false),(.bool false),(.bool false),(.bool false),(.bool false),(.bool false),(.bool false),(.bool false),(.bool false),(.bool false),(.bool false),(.bool false),(.bool false),(.bool false),(.bool false),(.bool false),(.bool false),(.bool false),(.bool false),(.bool false),(.bool false),(.bool false),(.bool false),(.bool false),(.bool false),(.bool false),(.bool false),(.bool false),(.bool false),(.bool false),(.bool false),(.bool false),(.bool false),(.bool false),(.bool false),(.bool false),(.bool false),(.bool false),(.bool false),(.bool false),(.bool false),(.bool false),(.bool false),(.bool false),(.bool false),(.bool false),(.bool false),(.bool false),(.bool false),(.bool false),(.bool false),(.bool false),(.bool false),(.bool false),(.bool false),(.bool false),(.bool false),(.bool false),(.bool false),(.bool false),(.bool false),(.bool false),(.bool false),(.bool false),(.bool false),(.bool false),(.bool false),(.bool false),(.bool false),(.bool false),(.bool false),(.bool false)]),st 128 (t 5) (t 9)] [1,8,9]) (.seq (.ops [o 6 (.alloc 84 [sn])] []) (.seq (.seq (.ops [mv 10 (t 0),ca 11 F.zcI [(t 10),(k 128)]] [0,10]) (.block 0 (.rfun ((t 11)) [12] (.ops [mv 7 (t 12)] [12]) (.block 1 (.seq (.ops [mv 13 (t 7),o 14 (.iaddrA 128 1 (t 5) (t 13)),l1 15 (t 14)] [5,13,14]) (.cond (t 15) (.ops [l1 16 (t 6),mv 17 (t 7),o 18 (.mkSl true 3 1 [(i 0)] [(0,1,(t 17))]),o 19 (.app 3 1 8 [(i 0)] (t 16) (t 18)),st 1 (t 6) (t 19)] [7,16,17,18,19]) (.skip))))))) (.seq (.ops [l1 20 (t 6),mv 4 (t 20)] [6,20]) (.ret)))))
def zzP:List zd:=[.tmp 4]
theorem zyv {args:List Value} {M:Mem} {R:Value→Mem→Prop} (hn:args.length≤21) (h:zh Tryz.prog zzO zzP args M R):CallsM Tryz.prog F.zj6 args M R:=zg (kf:=zzN) Tryz.func314 (by kernel_rfl) (by kernel_rfl) hn (by kernel_rfl) h
end
end Go.Proofs.YtdogcflaekkdkaaGreat
namespace Go.Proofs.YtdogcflaekkdkaaGreat
open Go Go.Vm
@[reducible] def ptr (p:Nat):Value := .pointer (some ⟨p,0,none⟩)
end Go.Proofs.YtdogcflaekkdkaaGreat
namespace Go.Vm
set_option linter.unusedSectionVars false
set_option linter.unusedSimpArgs false
section
variable {κ α:Type} [DecidableEq κ]
def zK5 (kv:κ→Value) (vv:α→Value) (p:Nat×κ×α):MapEntry:={ key:=kv p.2.1,val:=vv p.2.2,born:=p.1 }
def zKj (kv:κ→Value) (vv:α→Value) (l:List (Nat×κ×α)) (clock:Nat):Obj := .map (l.map (zK5 kv vv)).toArray clock
structure zK6 (l:List (Nat×κ×α)) (clock:Nat):Prop where
 keys:(l.map (·.2.1)).Nodup
 old:∀ p∈l,p.1<clock
 apart:(l.map (·.1)).Nodup
def zKk:List (κ×α)→κ→Option α
 | [],_=>none
 | (k,x)::r,i=>if k=i then some x else zKk r i
def bset:List (Nat×κ×α)→κ→α→List (Nat×κ×α)
 | [],_,_=>[]
 | (b,k,y)::r,i,x=>if k=i then (b,i,x)::r else (b,k,y)::bset r i x
variable {kv:κ→Value} {vv:α→Value}
def zK7 (kv:κ→Value) (vv:α→Value) (M:Mem) (b:Nat) (m:List (κ×α)):Prop:=∃ l clock,M b=some (zKj kv vv l clock)∧zK6 l clock∧l.map (·.2)=m
end
end Go.Vm
namespace Go.Vm
end Go.Vm
namespace Go.Vm
section
variable {κ α:Type} {kv:κ→Value} {vv:α→Value}
end
end Go.Vm
namespace Go.Vm
end Go.Vm
namespace Go.Vm
theorem CallsM.frame {P:Program} {f:Nat} {args:List Value} {A M:Mem} {R:Value→Mem→Prop} (h:CallsM P f args A R) (hA:A.le M) :
  CallsM P f args M fun v M'=>∃ A',R v A'∧A'.le M'∧∀ x o,A x=none→M x=some o→M' x=some o∧A' x=none:=by
 refine⟨h.1,fun F w hM hF hdj=>?_⟩
 obtain⟨F',hF'⟩:∃ F':Mem,F'=fun x=>if A x=none then (if M x=none then F x else M x) else none:=⟨_,rfl⟩
 have hFF:F.le F':=fun x o hx=>by
  have hMx:M x=none:=(hdj x).resolve_right (by rw[hx];simp)
  have hAx:A x=none:=by
   cases e:A x with
   | none=>rfl
   | some y=>rw[hA x y e] at hMx;cases hMx
  rw[hF'];dsimp only;rw[if_pos hAx,if_pos hMx];exact hx
 have hF'w:F'.le (zk w):=fun x o hx=>by
  rw[hF'] at hx;dsimp only at hx
  split at hx
  ·split at hx
   ·exact hF x o hx
   ·exact hM x o hx
  ·cases hx
 have hdj':A.disj F':=fun x=>by
  by_cases e:A x=none
  ·exact .inl e
  ·right;rw[hF'];dsimp only;rw[if_neg e]
 refine(h.2 F' w (fun x o hx=>hM x o (hA x o hx)) hF'w hdj').mono ?_
 rintro e w' ⟨v,A',he,hR,hA',hFw',hdA,hrest⟩
 have hin:∀ x o,A x=none→M x=some o→F' x=some o:=fun x o h1 h2=>by
  rw[hF'];dsimp only;rw[if_pos h1,if_neg (by rw[h2];simp)];exact h2
 obtain⟨M',hM'⟩:∃ M':Mem,M'=fun x=>if A' x=none then (if A x=none then M x else none) else A' x:=⟨_,rfl⟩
 refine⟨v,M',he,⟨A',hR,fun x o hx=>by rw[hM'];dsimp only;rw[if_neg (by rw[hx];simp)];exact hx,fun x o h1 h2=>?_⟩,fun x o hx=>?_,fun x o hx=>hFw' x o (hFF x o hx),fun x=>?_,hrest⟩
 ·have:=hin x o h1 h2
  have hn:A' x=none:=(hdA x).resolve_right (by rw[this];simp)
  exact⟨by rw[hM'];dsimp only;rw[if_pos hn,if_pos h1];exact h2,hn⟩
 ·rw[hM'] at hx;dsimp only at hx
  split at hx
  ·split at hx
   ·exact hFw' x o (hin x o ‹_› hx)
   ·cases hx
  ·exact hA' x o hx
 ·cases e:F x with
  | none=>exact .inr rfl
  | some o=>
   left
   have hFx:=hFF x o e
   have hn:A' x=none:=(hdA x).resolve_right (by rw[hFx];simp)
   have hMx:M x=none:=(hdj x).resolve_right (by rw[e];simp)
   rw[hM'];dsimp only;rw[if_pos hn];split
   ·exact hMx
   ·rfl
end Go.Vm
namespace Go.Vm
end Go.Vm
namespace Go.Vm
open Go.RowKit
theorem WLe.refl (W:World):WLe W W:=⟨rfl,rfl,rfl,Nat.le_refl _,Nat.le_refl _,fun _ _ h=>h⟩
theorem CallsM.world {P:Program} {f:Nat} {args:List Value} {M:Mem} {R:Value→Mem→Prop} (h:CallsM P f args M R) {w:World} (hM:M.le (zk w)) (hR:∀ v M',R v M'→M.le M') :
  Calls P f args.toArray w fun e w'=>∃ v M',e = .returned v∧R v M'∧M'.le (zk w')∧WLe w w'∧∀ b,M b=none→M' b≠none→w.heap.size≤b:=by
 obtain⟨F,hF⟩:∃ F:Mem,F=fun b=>if M b=none then zk w b else none:=⟨_,rfl⟩
 refine(h.2 F w hM (fun b o hb=>?_) (fun b=>?_)).mono ?_
 ·rw[hF] at hb;dsimp only at hb
  split at hb
  ·exact hb
  ·cases hb
 ·by_cases e:M b=none
  ·exact .inl e
  ·right;rw[hF];dsimp only;rw[if_neg e]
 ·rintro e w' ⟨v,M',he,hr,hM',hF',hdj,h1,h2,h3,h4,h5⟩
  refine⟨v,M',he,hr,hM',⟨h1,h2,h3,h5,h4,fun k o hk=>?_⟩,fun b hb hb'=>?_⟩
  ·by_cases e:M k=none
   ·exact hF' k o (by rw[hF];dsimp only;rw[if_pos e];exact hk)
   ·obtain⟨z,hz⟩:=Option.ne_none_iff_exists'.1 e
    have h6:=hM k z hz
    have:o=z:=Option.some.inj (hk.symm.trans h6)
    subst this
    exact hM' k o (hR v M' hr k o hz)
  ·have h6:=(hdj b).resolve_left hb'
   rw[hF] at h6
   dsimp only at h6
   rw[if_pos hb] at h6
   apply Classical.byContradiction
   intro hlt
   have:w.heap[b]? = none:=h6
   rw[Array.getElem?_eq_none_iff] at this
   exact hlt this
theorem zFM {P:Program} {asg body:(Exit→St→Prop)→St→Prop} {ps:List Nat} {gf:Nat} {lb:List Value} {Q:Exit→St→Prop} {fr:List (Nat×SV)} {bx:List BE} {M:Mem} {α:Type} {encs:α→List Value} {A:Mem} {N:Nat} {PM:α→Mem→Prop} {D:List α→Prop}
  (hit:zDi P gf lb encs A N PM D) (hen:zmW P gf=true) (hbx:bx.all zIs=true) (hA:A.le M) (hlen:∀ x,(encs x).length=ps.length) (I:List α→Mem→Prop) (M0:Mem) (hM0:M0.le M) (hAM:∀ b,A b≠none→M0 b=none) (hI:I [] M0)
  (hround:∀ pre x M Mx M1,I pre M→pre.length<N→PM x Mx→(∀ b,Mx b≠none→M b=none∧A b=none)→M.le M1→Mx.le M1 →
   asg (fun e t=>e = .normal∧body (fun e t'=>e = .normal∧∃ M2,I (pre++[x]) M2∧M2.le t'.M) t) ⟨zDj ps (encs x) fr,bx,M1⟩)
  (hdone:∀ xs M M1,D xs→I xs M→(∀ b,A b≠none→M b=none)→M.le M1→A.le M1→Q .normal ⟨fr,bx,M1⟩):zCO P asg body ps gf lb Q ⟨fr,bx,M⟩:=
 ⟨hen,hbx,α,encs,A,N,PM,D,I,hit,hA,hlen,⟨M0,hM0,hAM,hI⟩,hround,hdone⟩
end Go.Vm
