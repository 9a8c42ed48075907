/- Part of this proof;laid by program. -/
import Derived.Test.YtpnhjkiligohnaaGreatDoorJ7
set_option linter.unusedVariables false
set_option linter.unusedSimpArgs false
namespace Go.Vm
set_option linter.unusedSectionVars false
set_option linter.unusedSimpArgs false
section
variable {κ α:Type} [DecidableEq κ]
def zBS (kv:κ→Value):Prop:=∀ a b,zkz (kv a) (kv b)=some (decide (a=b))
def zl9 (kv:κ→Value) (vv:α→Value) (p:Nat×κ×α):MapEntry:={ key:=kv p.2.1,val:=vv p.2.2,born:=p.1 }
def zro (kv:κ→Value) (vv:α→Value) (l:List (Nat×κ×α)) (clock:Nat):Obj := .map (l.map (zl9 kv vv)).toArray clock
structure MapOk (l:List (Nat×κ×α)) (clock:Nat):Prop where
 keys:(l.map (·.2.1)).Nodup
 old:∀ p∈l,p.1<clock
 apart:(l.map (·.1)).Nodup
def zaO:List (κ×α)→κ→Option α
 | [],_=>none
 | (k,x)::r,i=>if k=i then some x else zaO r i
def zuf:List (κ×α)→κ→α→List (κ×α)
 | [],_,_=>[]
 | (k,y)::r,i,x=>if k=i then (i,x)::r else (k,y)::zuf r i x
def zv9 (l:List (κ×α)) (k:κ) (x:α):List (κ×α):=match zaO l k with|some _=>zuf l k x|none=>l++[(k,x)]
theorem aget_none {l:List (κ×α)} {k:κ}:zaO l k=none↔k∉l.map (·.1):=by
 induction l with
 | nil=>simp[zaO]
 | cons p r ih=>
  obtain⟨a,x⟩:=p;simp only[zaO];split
  ·rename_i h;subst h;simp
  ·rename_i h;rw[ih];simp[Ne.symm h]
theorem zTD {l:List (κ×α)} (hn:(l.map (·.1)).Nodup) {k:κ} {x:α} (h:(k,x)∈l):zaO l k=some x:=by
 induction l with
 | nil=>cases h
 | cons p r ih=>
  obtain⟨a,y⟩:=p;simp only[List.map_cons,List.nodup_cons] at hn;simp only[zaO];rcases List.mem_cons.1 h with e|e
  ·cases e;simp
  ·split
   ·rename_i ha;subst ha;exact absurd (List.mem_map.2 ⟨_,e,rfl⟩) hn.1
   ·exact ih hn.2 e
theorem zMu (l:List (κ×α)) (k:κ) (x:α):(zuf l k x).map (·.1)=l.map (·.1):=by
 induction l with
 | nil=>rfl
 | cons p r ih=>
  obtain⟨a,y⟩:=p;simp only[zuf];split
  ·rename_i e;simp[e]
  ·simp[ih]
theorem zMv (l:List (κ×α)) (k:κ) (x:α) (i:κ):zaO (zuf l k x) i=if i=k∧(zaO l k).isSome then some x else zaO l i:=by
 induction l with
 | nil=>simp[zuf,zaO]
 | cons p r ih=>
  obtain⟨a,y⟩:=p;simp only[zuf];by_cases ha:a=k
  ·rw[if_pos ha];subst ha;simp only[zaO,if_true,Option.isSome_some,and_true];by_cases hi:a=i
   ·simp[hi]
   ·rw[if_neg hi,if_neg hi,if_neg (fun e=>hi e.symm)]
  ·rw[if_neg ha];simp only[zaO,if_neg ha,ih];by_cases hi:a=i
   ·rw[if_pos hi,if_pos hi,if_neg (fun e=>ha (hi.trans e.1))]
   ·rw[if_neg hi,if_neg hi]
theorem zIl (l r:List (κ×α)) (i:κ):zaO (l++r) i=(zaO l i).or (zaO r i):=by
 induction l with
 | nil=>simp[zaO]
 | cons p l ih=>
  obtain⟨a,y⟩:=p;simp only[List.cons_append,zaO];split<;>simp_all
theorem zED (l:List (κ×α)) (k:κ) (x:α) (i:κ):zaO (zv9 l k x) i=if i=k then some x else zaO l i:=by
 unfold zv9;cases h:zaO l k with
 | some y=>simp only[zMv,h,Option.isSome_some,and_true]
 | none=>
  simp only[zIl];by_cases hi:i=k
  ·subst hi;rw[h];simp[zaO]
  ·rw[if_neg hi];simp only[zaO];rw[if_neg (fun e=>hi e.symm)];simp
theorem zMw (l:List (κ×α)) (k:κ) (x:α):(zv9 l k x).map (·.1)=if (zaO l k).isSome then l.map (·.1) else l.map (·.1)++[k]:=by
 unfold zv9;cases h:zaO l k<;>simp[zMu]
theorem zJO {l:List (κ×α)} (h:(l.map (·.1)).Nodup) (k:κ) (x:α):((zv9 l k x).map (·.1)).Nodup:=by
 rw[zMw];cases hg:zaO l k with
 | some _=>simpa using h
 | none=>
  have:=aget_none.1 hg;simp only[Option.isSome_none,Bool.false_eq_true,if_false];rw[List.nodup_append];exact⟨h,by simp,fun a ha b hb=>by simp at hb;subst hb;exact fun e=>this (e▸ha)⟩
def bset:List (Nat×κ×α)→κ→α→List (Nat×κ×α)
 | [],_,_=>[]
 | (b,k,y)::r,i,x=>if k=i then (b,i,x)::r else (b,k,y)::bset r i x
def zug (l:List (Nat×κ×α)) (clock:Nat) (k:κ) (x:α):List (Nat×κ×α):=match zaO (l.map (·.2)) k with|some _=>bset l k x|none=>l++[(clock,k,x)]
def ztg (l:List (Nat×κ×α)) (clock:Nat) (k:κ):Nat:=match zaO (l.map (·.2)) k with|some _=>clock|none=>clock+1
def zN0 (l:List (Nat×κ×α)) (k:κ):List (Nat×κ×α):=l.filter fun p=>decide (p.2.1≠k)
theorem zN1 (l:List (Nat×κ×α)) (k:κ) (x:α):(bset l k x).map (·.2)=zuf (l.map (·.2)) k x:=by
 induction l with
 | nil=>rfl
 | cons p r ih=>
  obtain⟨b,a,y⟩:=p;simp only[bset,List.map_cons,zuf];split<;>simp[ih]
theorem zEE (l:List (Nat×κ×α)) (k:κ) (x:α):(bset l k x).map (·.1)=l.map (·.1):=by
 induction l with
 | nil=>rfl
 | cons p r ih=>
  obtain⟨b,a,y⟩:=p;simp only[bset];split<;>simp[ih]
theorem zzY (l:List (Nat×κ×α)) (clock:Nat) (k:κ) (x:α):(zug l clock k x).map (·.2)=zv9 (l.map (·.2)) k x:=by
 unfold zug zv9;cases h:zaO (l.map (·.2)) k<;>simp[zN1]
theorem zP9 (l:List (Nat×κ×α)):l.map (·.2.1)=(l.map (·.2)).map (·.1):=by simp
theorem MapOk.put {l:List (Nat×κ×α)} {clock:Nat} (h:MapOk l clock) (k:κ) (x:α):MapOk (zug l clock k x) (ztg l clock k):=by
 refine⟨?_,?_,?_⟩
 ·rw[zP9,zzY];exact zJO (by rw[←zP9];exact h.keys) k x
 ·unfold zug ztg;cases hg:zaO (l.map (·.2)) k with
  | some y=>
   intro p hp;simp only at hp ⊢;have:p.1∈(bset l k x).map (·.1):=List.mem_map.2 ⟨p,hp,rfl⟩
   rw[zEE] at this;obtain⟨q,hq,e⟩:=List.mem_map.1 this;rw[←e];exact h.old q hq
  | none=>
   intro p hp;simp only[List.mem_append,List.mem_singleton] at hp ⊢;rcases hp with hp|rfl
   ·have:=h.old p hp;omega
   ·simp
 ·unfold zug;cases hg:zaO (l.map (·.2)) k with
  | some y=>simp only[zEE];exact h.apart
  | none=>
   simp only[List.map_append,List.map_cons,List.map_nil];rw[List.nodup_append];refine⟨h.apart,by simp,fun a ha b hb=>?_⟩;simp at hb;subst hb;obtain⟨q,hq,e⟩:=List.mem_map.1 ha;have:=h.old q hq
   intro e';omega
theorem MapOk.empty:MapOk ([]:List (Nat×κ×α)) 0:=⟨by simp,by simp,by simp⟩
variable {kv:κ→Value} {vv:α→Value}
theorem zuh (hk:zBS kv) {k:κ}:∀ {l:List (Nat×κ×α)} (i:Nat),zaO (l.map (·.2)) k=none→kfind (kv k) (l.map (zl9 kv vv)) i=some none
 | [],_,_=>rfl
 | (b,a,y)::r,i,h=>by
  simp only[List.map_cons,zaO] at h;split at h
  ·cases h
  ·rename_i hne;simp only[List.map_cons,kfind,zl9,hk k a];rw[decide_eq_false (fun e=>hne e.symm)];exact zuh hk (i+1) h
theorem zui (hk:zBS kv) {k:κ} {x:α}:∀ {l:List (Nat×κ×α)} (i:Nat),zaO (l.map (·.2)) k=some x→∃ j,kfind (kv k) (l.map (zl9 kv vv)) i=some (some (i+j,vv x)) ∧
   (∀ y,((l.map (zl9 kv vv)).modify j fun e=>{ e with key:=kv k,val:=vv y })=(bset l k y).map (zl9 kv vv))∧(∀ (_:(l.map (·.2.1)).Nodup),(l.map (zl9 kv vv)).eraseIdx j=(zN0 l k).map (zl9 kv vv))∧j<l.length
 | [],_,h=>by cases h
 | (b,a,y)::r,i,h=>by
  simp only[List.map_cons,zaO] at h;split at h
  ·rename_i e;subst e;cases h;refine⟨0,?_,?_,?_,by simp⟩
   ·simp[kfind,zl9,hk a a]
   ·intro y';simp[zl9,bset]
   ·intro hn;simp only[List.map_cons,List.nodup_cons] at hn;have:∀ p∈r,p.2.1≠a:=fun p hp e=>hn.1 (e▸List.mem_map.2 ⟨p,hp,rfl⟩)
    simp only[List.map_cons,List.eraseIdx_cons_zero,zN0,List.filter_cons,ne_eq,not_true_eq_false,decide_false,Bool.false_eq_true,if_false];rw[List.filter_eq_self.2];intro p hp;simpa using this p hp
  ·rename_i hne;obtain⟨j,h1,h3,h4,h5⟩:=zui hk (i+1) h;refine⟨j+1,?_,?_,?_,by simp;omega⟩
   ·simp only[List.map_cons,kfind,zl9,hk k a];rw[decide_eq_false (fun e=>hne e.symm)];simp only;rw[h1];congr 3;omega
   ·intro y';simp only[List.map_cons,List.modify_succ_cons,bset,if_neg hne];rw[h3]
   ·intro hn;simp only[List.map_cons,List.nodup_cons] at hn;simp only[List.map_cons,List.eraseIdx_cons_succ];rw[h4 hn.2];simp[zN0,List.filter_cons,hne]
def MapAt (kv:κ→Value) (vv:α→Value) (M:Mem) (b:Nat) (m:List (κ×α)):Prop:=∃ l clock,M b=some (zro kv vv l clock)∧MapOk l clock∧l.map (·.2)=m
theorem MapAt.mono {M M':Mem} {b:Nat} {m:List (κ×α)} (h:MapAt kv vv M b m) (hb:∀ o,M b=some o→M' b=some o):MapAt kv vv M' b m:=by
 obtain⟨l,c,h0,h1⟩:=h;exact⟨l,c,hb _ h0,h1⟩
theorem MapAt.new (M:Mem) (b:Nat):MapAt kv vv (M.upd b (.map #[] 0)) b []:=⟨[],0,by simp[Mem.upd,zro],MapOk.empty,rfl⟩
theorem MapAt.get {M:Mem} {b:Nat} {m:List (κ×α)} (h:MapAt kv vv M b m) (hk:zBS kv) (k:κ) {K:Option (Nat×Value)→Prop} (h0:zaO m k=none→K none) (h1:∀ x i,zaO m k=some x→K (some (i,vv x))) :
  onO (M.mapAt b) fun p=>onO (kfind (kv k) p.1.toList 0) K:=by
 obtain⟨l,c,hM,_,rfl⟩:=h;simp only[Mem.mapAt,hM,zro,onO];cases hg:zaO (l.map (·.2)) k with
 | none=>simp only[zuh hk 0 hg];exact h0 hg
 | some x=>
  obtain⟨j,hj,_⟩:=zui (vv:=vv) hk 0 hg;simp only[hj];exact h1 x _ hg
theorem MapAt.put {M:Mem} {b:Nat} {m:List (κ×α)} (h:MapAt kv vv M b m) (hk:zBS kv) (k:κ) (x:α) {K:Array MapEntry×Nat→Option (Nat×Value)→Prop}
  (h0:∀ p f,(∀ M':Mem,MapAt kv vv (M'.upd b (mput p f (kv k) (vv x))) b (zv9 m k x))→K p f):onO (M.mapAt b) fun p=>onO (kfind (kv k) p.1.toList 0) fun f=>K p f:=by
 obtain⟨l,c,hM,hok,rfl⟩:=h;simp only[Mem.mapAt,hM,zro,onO];cases hg:zaO (l.map (·.2)) k with
 | none=>
  simp only[zuh hk 0 hg];refine h0 _ _ fun M'=>⟨zug l c k x,ztg l c k,?_,hok.put k x,zzY ..⟩
  simp[Mem.upd,mput,zro,zug,ztg,hg,zl9]
 | some y=>
  obtain⟨j,hj,hset,_⟩:=zui (vv:=vv) hk 0 hg;simp only[hj];refine h0 _ _ fun M'=>⟨zug l c k x,ztg l c k,?_,hok.put k x,zzY ..⟩
  simp[Mem.upd,mput,zro,zug,ztg,hg,hset]
end
end Go.Vm
namespace Go.Vm
theorem NewSl.rebase2 {M M2 M5:Mem} {E:TypeId} {s:Nat} {a:Option Addr} {n c:Nat} {L:List Value} (h:NewSl M E s a n c L M2) (hle:M2.le M5) {X:Nat→Prop} (hX:∀ x,blk a x→X x):NewSl (M5.minus X) E s a n c L M5:=by
 rw[newSl_iff] at h ⊢;obtain⟨_,h1,h2,h3⟩:=h;exact⟨Mem.minus_le _ _,h1,h2,h3.imp id fun ⟨b,cs,ha,_,hh,hr⟩=>⟨b,cs,ha,Mem.minus_in (hX _ ⟨_,ha,rfl⟩),hle _ _ hh,hr⟩⟩
end Go.Vm
namespace Go.Vm
section
variable {κ α:Type} {kv:κ→Value} {vv:α→Value}
theorem MapAt.nb {M:Mem} {b:Nat} {m:List (κ×α)} (h:MapAt kv vv M b m) {x:Nat} {E:TypeId} {l:List Value} (hx:M.has x E l):x≠b:=by
 rintro rfl;obtain⟨l1,c,h1,_⟩:=h;unfold Mem.has at hx;rw[h1] at hx;simp[zro] at hx
end
end Go.Vm
namespace Go.Vm
end Go.Vm
namespace Go.Vm
theorem CallsM.frame {P:Program} {f:Nat} {args:List Value} {A M:Mem} {R:Value→Mem→Prop} (h:CallsM P f args A R) (hA:A.le M) :
  CallsM P f args M fun v M'=>∃ A',R v A'∧A'.le M'∧∀ x o,A x=none→M x=some o→M' x=some o∧A' x=none:=by
 refine⟨h.1,fun F w hM hF hdj=>?_⟩;obtain⟨F',hF'⟩:∃ F':Mem,F'=fun x=>if A x=none then (if M x=none then F x else M x) else none:=⟨_,rfl⟩
 have hFF:F.le F':=fun x o hx=>by
  have hMx:M x=none:=(hdj x).resolve_right (by rw[hx];simp)
  have hAx:A x=none:=by
   cases e:A x with
   | none=>rfl
   | some y=>rw[hA x y e] at hMx;cases hMx
  rw[hF'];dsimp only;rw[if_pos hAx,if_pos hMx];exact hx
 have hF'w:F'.le (zo w):=fun x o hx=>by
  rw[hF'] at hx;dsimp only at hx;split at hx
  ·split at hx
   ·exact hF x o hx
   ·exact hM x o hx
  ·cases hx
 have hdj':A.disj F':=fun x=>by
  by_cases e:A x=none
  ·exact .inl e
  ·right;rw[hF'];dsimp only;rw[if_neg e]
 refine(h.2 F' w (fun x o hx=>hM x o (hA x o hx)) hF'w hdj').mono ?_;rintro e w' ⟨v,A',he,hR,hA',hFw',hdA,hrest⟩
 have hin:∀ x o,A x=none→M x=some o→F' x=some o:=fun x o h1 h2=>by
  rw[hF'];dsimp only;rw[if_pos h1,if_neg (by rw[h2];simp)];exact h2
 obtain⟨M',hM'⟩:∃ M':Mem,M'=fun x=>if A' x=none then (if A x=none then M x else none) else A' x:=⟨_,rfl⟩
 refine⟨v,M',he,⟨A',hR,fun x o hx=>by rw[hM'];dsimp only;rw[if_neg (by rw[hx];simp)];exact hx,fun x o h1 h2=>?_⟩,fun x o hx=>?_,fun x o hx=>hFw' x o (hFF x o hx),fun x=>?_,hrest⟩
 ·have:=hin x o h1 h2;have hn:A' x=none:=(hdA x).resolve_right (by rw[this];simp)
  exact⟨by rw[hM'];dsimp only;rw[if_pos hn,if_pos h1];exact h2,hn⟩
 ·rw[hM'] at hx;dsimp only at hx;split at hx
  ·split at hx
   ·exact hFw' x o (hin x o ‹_› hx)
   ·cases hx
  ·exact hA' x o hx
 ·cases e:F x with
  | none=>exact .inr rfl
  | some o=>
   left;have hFx:=hFF x o e
   have hn:A' x=none:=(hdA x).resolve_right (by rw[hFx];simp);have hMx:M x=none:=(hdj x).resolve_right (by rw[e];simp)
   rw[hM'];dsimp only;rw[if_pos hn];split
   ·exact hMx
   ·rfl
end Go.Vm
namespace Go.Vm
end Go.Vm
namespace Go.Vm
section
variable {α:Type} {enc:α→List Value} {s:Nat} (hk:∀ x,(enc x).length=s)
include hk
theorem zQa:∀ (l:List α) (i j:Nat) (x:α),l[i]? = some x→j<s→(l.flatMap enc)[i*s+j]? = (enc x)[j]?
 | [],i,j,x,h,_=>by simp at h
 | y::r,0,j,x,h,hj=>by
  simp at h;subst h;rw[List.flatMap_cons,Nat.zero_mul,Nat.zero_add,List.getElem?_append_left (by rw[hk];exact hj)]
 | y::r,i+1,j,x,h,hj=>by
  have:=zQa r i j x (by simpa using h) hj;rw[List.flatMap_cons,List.getElem?_append_right (by rw[hk,Nat.succ_mul];omega),hk,←this];congr 1;rw[Nat.succ_mul];omega
theorem zSB (l:List α):(l.flatMap enc).length=l.length*s:=by
 induction l with
 | nil=>simp
 | cons y r ih=>simp[hk,ih,Nat.succ_mul,Nat.add_comm]
theorem SrcOk.flen {M:Mem} {a:Option Addr} {n:Nat} {l:List α} (h:SrcOk M s a n (l.flatMap enc)) (hs:0<s):l.length=n:=by
 have:=h.len;rw[zSB hk] at this;exact Nat.eq_of_mul_eq_mul_right hs this
theorem SrcOk.fall {M:Mem} {a:Option Addr} {n:Nat} {l:List α} (h:SrcOk M s a n (l.flatMap enc)) (hs:0<s) {j:Nat} {x:α} (hx:l[j]? = some x):∃ b o,a=some ⟨b,o,Option.none⟩∧M.row b (o+j*s) s=some (enc x):=by
 have hj:j<n:=by have:=h.flen hk hs;have:=(List.getElem?_eq_some_iff.1 hx).1;omega
 obtain⟨b,o,ha,hr⟩:=h.elem hj hs;refine⟨b,o,ha,?_⟩;have:=hr 0 s (by omega)
 rw[Nat.add_zero] at this;rw[this];congr 1;apply List.ext_getElem?;intro t;by_cases ht:t<s
 ·rw[List.getElem?_take_of_lt ht,List.getElem?_drop,Nat.add_zero,zQa hk l j t x hx ht]
 ·rw[List.getElem?_eq_none (by simp;omega),List.getElem?_eq_none (by rw[hk];omega)]
omit hk in
theorem zN2 {E:TypeId} {bytes:Nat} {a:Option Addr} {n c:Nat} {news:List Value} {M:Mem} {k:Option Addr→Nat→Mem→Prop} {l:List α} (M0:Mem) (hown:NewSl M0 E s a n c (l.flatMap enc) M) (x:α) (hx:news=enc x)
  (h1:(n+1)*bytes≤140737488355328) (h2:n+1≤maxLen) (h3:∀ u∈news,u.oneCell'=true) (hkk:∀ a' c' M',NewSl M0 E s a' (n+1) c' ((l++[x]).flatMap enc) M'→Mem.keep (blk a) M M'→k a' c' M'):zbN E s bytes a n c 1 news M k:=by
 subst hx;refine appK M0 _ hown h1 h2 h3 fun a' c' M' hn hkp=>hkk a' c' M' ?_ hkp
 rw[List.flatMap_append];simpa using hn
end
end Go.Vm
namespace Go.Vm
open Go.RowKit
theorem WLe.refl (W:World):WLe W W:=⟨rfl,rfl,rfl,Nat.le_refl _,Nat.le_refl _,fun _ _ h=>h⟩
theorem CallsM.world {P:Program} {f:Nat} {args:List Value} {M:Mem} {R:Value→Mem→Prop} (h:CallsM P f args M R) {w:World} (hM:M.le (zo w)) (hR:∀ v M',R v M'→M.le M') :
  Calls P f args.toArray w fun e w'=>∃ v M',e = .returned v∧R v M'∧M'.le (zo w')∧WLe w w'∧∀ b,M b=none→M' b≠none→w.heap.size≤b:=by
 obtain⟨F,hF⟩:∃ F:Mem,F=fun b=>if M b=none then zo w b else none:=⟨_,rfl⟩
 refine(h.2 F w hM (fun b o hb=>?_) (fun b=>?_)).mono ?_
 ·rw[hF] at hb;dsimp only at hb;split at hb
  ·exact hb
  ·cases hb
 ·by_cases e:M b=none
  ·exact .inl e
  ·right;rw[hF];dsimp only;rw[if_neg e]
 ·rintro e w' ⟨v,M',he,hr,hM',hF',hdj,h1,h2,h3,h4,h5⟩;refine⟨v,M',he,hr,hM',⟨h1,h2,h3,h5,h4,fun k o hk=>?_⟩,fun b hb hb'=>?_⟩
  ·by_cases e:M k=none
   ·exact hF' k o (by rw[hF];dsimp only;rw[if_pos e];exact hk)
   ·obtain⟨z,hz⟩:=Option.ne_none_iff_exists'.1 e;have h6:=hM k z hz
    have:o=z:=Option.some.inj (hk.symm.trans h6);subst this;exact hM' k o (hR v M' hr k o hz)
  ·have h6:=(hdj b).resolve_left hb';rw[hF] at h6;dsimp only at h6;rw[if_pos hb] at h6;apply Classical.byContradiction;intro hlt;have:w.heap[b]? = none:=h6
   rw[Array.getElem?_eq_none_iff] at this;exact hlt this
theorem zMx {P:Program} {asg body:(Exit→St→Prop)→St→Prop} {ps:List Nat} {gf:Nat} {lb:List Value} {Q:Exit→St→Prop} {fr:List (Nat×SV)} {bx:List BE} {M:Mem} {α:Type} {encs:α→List Value} {A:Mem} {N:Nat} {PM:α→Mem→Prop} {D:List α→Prop}
  (hit:zJw P gf lb encs A N PM D) (hen:zj5 P gf=true) (hbx:bx.all zP5=true) (hA:A.le M) (hlen:∀ x,(encs x).length=ps.length) (I:List α→Mem→Prop) (M0:Mem) (hM0:M0.le M) (hAM:∀ b,A b≠none→M0 b=none) (hI:I [] M0)
  (hround:∀ pre x M Mx M1,I pre M→pre.length<N→PM x Mx→(∀ b,Mx b≠none→M b=none∧A b=none)→M.le M1→Mx.le M1 →
   asg (fun e t=>e = .normal∧body (fun e t'=>e = .normal∧∃ M2,I (pre++[x]) M2∧M2.le t'.M) t) ⟨zJx ps (encs x) fr,bx,M1⟩)
  (hdone:∀ xs M M1,D xs→I xs M→(∀ b,A b≠none→M b=none)→M.le M1→A.le M1→Q .normal ⟨fr,bx,M1⟩):zIV P asg body ps gf lb Q ⟨fr,bx,M⟩:=
 ⟨hen,hbx,α,encs,A,N,PM,D,I,hit,hA,hlen,⟨M0,hM0,hAM,hI⟩,hround,hdone⟩
end Go.Vm
