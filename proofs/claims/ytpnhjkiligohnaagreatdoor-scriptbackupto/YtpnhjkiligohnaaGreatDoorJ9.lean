/- Part of this proof;laid by program. -/
import Derived.Test.YtpnhjkiligohnaaGreatDoorJ7
import Derived.Test.YtpnhjkiligohnaaGreatDoorJ8
set_option linter.unusedVariables false
set_option linter.unusedSimpArgs false
namespace Go.Proofs.YtpnhjkiligohnaaGreatDoor
open Go.Vm Go.Vm.S
section
def zE7:RCode:=q (p [mv 6 kg] [6]) (q (p [mv 7 0,mv 8 1,ib 9 .geq 7 8,os 10 (.mov 9),gm 10 11 0,gm 10 12 2,gt 10 13 (.ibin .leq 11 12),pk 14 10 13 kg,mv 6 14] (0::1::2::rg 7 8)) .ret)
def zE8:List zc:=[.tmp 6]
theorem zDf:FO Tryz.prog F.zfi 15 zE7 zE8:=fk Tryz.func128
def ztj:RCode:=q (p [mv 2 (.const sn)] [2]) (q (q (p [mv 5 0,o 6 (.pnil .eql 5 pn)] [5]) (c 6 (q (p [mv 2 (.const sn)] []) .ret) .skip)) (q (p [o 3 (.alloc 99 [sn])] []) (q (q (.draw (w (mv 7 0) (w (nk 8 7) (w (fa 9 1 8) (w (l1 10 9) (w (mv 11 0) (w (nk 12 11) (w (fa 13 3 12) (w (l1 14 13) (A (ca 15 F.zdM [10,14]) false .done .none))))))))) (0::rg 7 8)) (.block 0 (.rfun (15) [16] (p [mv 4 16] [16]) (.block 1 (p [l1 17 3,mv 18 4,o 19 (.mkSl true 3 1 [i 0] [(0,1,18)]),o 20 (.app 3 1 8 [i 0] 17 19),st 1 3 20] (4::rg 17 4)))))) (q (p [l1 21 3,mv 2 21] [3,21]) .ret))))
def ztk:List zc:=[.tmp 2]
theorem zlW:FO Tryz.prog F.zbw 22 ztj ztk:=fk Tryz.func161
def zE9:RCode:=q (p [o 2 (.box 3 0),o 3 (.box 3 1),mv 4 (.const .nilFunc)] [0,1,4]) (q (p [o 5 (.mkfn F.zjk [3,2]),mv 4 5] [2,3,5]) .ret)
def zFa:List zc:=[.tmp 4]
theorem zDg:FO Tryz.prog F.zdM 6 zE9 zFa:=fk Tryz.func225
end
section
def zBK:RCode:=q (p [mv 2 (k 0)] [2]) (q (p [mv 3 0,ib 4 .and 3 (k 127),mv 2 4] [0,3,4]) .ret)
def zBL:List zc:=[.tmp 2]
theorem zzO:FO Tryz.prog F.zY 5 zBK zBL:=fk Tryz.func285
end
section
def zFb:RCode:=q (p [mv 4 (.const sn)] [4]) (q (p [mv 8 1,ca 9 F.zdl [8],o 5 (.alloc 433 [.bool false,.bool false,.bool false,.bool false,.bool false,.bool false,.bool false,.bool false,.bool false,.bool false,.bool false,.bool false,.bool false,.bool false,.bool false,.bool false,.bool false,.bool false,.bool false,.bool false,.bool false,.bool false,.bool false,.bool false,.bool false,.bool false,.bool false,.bool false,.bool false,.bool false,.bool false,.bool false,.bool false,.bool false,.bool false,.bool false,.bool false,.bool false,.bool false,.bool false,.bool false,.bool false,.bool false,.bool false,.bool false,.bool false,.bool false,.bool false,.bool false,.bool false,.bool false,.bool false,.bool false,.bool false,.bool false,.bool false,.bool false,.bool false,.bool false,.bool false,.bool false,.bool false,.bool false,.bool false,.bool false,.bool false,.bool false,.bool false,.bool false,.bool false,.bool false,.bool false,.bool false,.bool false,.bool false,.bool false,.bool false,.bool false,.bool false,.bool false,.bool false,.bool false,.bool false,.bool false,.bool false,.bool false,.bool false,.bool false,.bool false,.bool false,.bool false,.bool false,.bool false,.bool false,.bool false,.bool false,.bool false,.bool false,.bool false,.bool false,.bool false,.bool false,.bool false,.bool false,.bool false,.bool false,.bool false,.bool false,.bool false,.bool false,.bool false,.bool false,.bool false,.bool false,.bool false,.bool false,.bool false,.bool false,.bool false,.bool false,.bool false,.bool false,.bool false,.bool false,.bool false,.bool false,.bool false,.bool false]),st 128 5 9] [1,8,9]) (q (p [o 6 (.alloc 99 [sn])] []) (q (q (p [mv 10 0,ca 11 F.zdM [10,k 128]] [0,10]) (.block 0 (.rfun (11) [12] (p [mv 7 12] [12]) (.block 1 (q (p [mv 13 7,o 14 (.iaddrA 128 1 5 13),l1 15 14] [5,13,14]) (c 15 (p [l1 16 6,mv 17 7,o 18 (.mkSl true 3 1 [i 0] [(0,1,17)]),o 19 (.app 3 1 8 [i 0] 16 18),st 1 6 19] (7::rg 16 4)) .skip)))))) (q (p [l1 20 6,mv 4 20] [6,20]) .ret))))
def zFc:List zc:=[.tmp 4]
theorem zDh:FO Tryz.prog F.zma 21 zFb zFc:=fk Tryz.func390
end
end Go.Proofs.YtpnhjkiligohnaaGreatDoor
namespace Go.Proofs.YtpnhjkiligohnaaGreatDoor
open Go Go.Vm
@[reducible] def ptr (p:Nat):Value := .pointer (some ⟨p,0,none⟩)
end Go.Proofs.YtpnhjkiligohnaaGreatDoor
namespace Go.Vm
set_option linter.unusedSectionVars false
set_option linter.unusedSimpArgs false
section
variable {κ α:Type} [DecidableEq κ]
def zBM (kv:κ→Value):Prop:=∀ a b,zkw (kv a) (kv b)=some (decide (a=b))
def zmb (kv:κ→Value) (vv:α→Value) (p:Nat×κ×α):MapEntry:={ key:=kv p.2.1,val:=vv p.2.2,born:=p.1 }
def zrq (kv:κ→Value) (vv:α→Value) (l:List (Nat×κ×α)) (clock:Nat):Obj := .map (l.map (zmb kv vv)).toArray clock
structure MapOk (l:List (Nat×κ×α)) (clock:Nat):Prop where
 keys:(l.map (·.2.1)).Nodup
 old:∀ p∈l,p.1<clock
 apart:(l.map (·.1)).Nodup
def zaS:List (κ×α)→κ→Option α
 | [],_=>none
 | (k,x)::r,i=>if k=i then some x else zaS r i
def zuh:List (κ×α)→κ→α→List (κ×α)
 | [],_,_=>[]
 | (k,y)::r,i,x=>if k=i then (i,x)::r else (k,y)::zuh r i x
def zv9 (l:List (κ×α)) (k:κ) (x:α):List (κ×α):=match zaS l k with|some _=>zuh l k x|none=>l++[(k,x)]
theorem aget_none {l:List (κ×α)} {k:κ}:zaS l k=none↔k∉l.map (·.1):=by
 induction l with
 | nil=>simp[zaS]
 | cons p r ih=>
  obtain⟨a,x⟩:=p;simp only[zaS];split
  ·rename_i h;subst h;simp
  ·rename_i h;rw[ih];simp[Ne.symm h]
theorem zTM {l:List (κ×α)} (hn:(l.map (·.1)).Nodup) {k:κ} {x:α} (h:(k,x)∈l):zaS l k=some x:=by
 induction l with
 | nil=>cases h
 | cons p r ih=>
  obtain⟨a,y⟩:=p;simp only[List.map_cons,List.nodup_cons] at hn;simp only[zaS];rcases List.mem_cons.1 h with e|e
  ·cases e;simp
  ·split
   ·rename_i ha;subst ha;exact absurd (List.mem_map.2 ⟨_,e,rfl⟩) hn.1
   ·exact ih hn.2 e
theorem zMG (l:List (κ×α)) (k:κ) (x:α):(zuh l k x).map (·.1)=l.map (·.1):=by
 induction l with
 | nil=>rfl
 | cons p r ih=>
  obtain⟨a,y⟩:=p;simp only[zuh];split
  ·rename_i e;simp[e]
  ·simp[ih]
theorem zMH (l:List (κ×α)) (k:κ) (x:α) (i:κ):zaS (zuh l k x) i=if i=k∧(zaS l k).isSome then some x else zaS l i:=by
 induction l with
 | nil=>simp[zuh,zaS]
 | cons p r ih=>
  obtain⟨a,y⟩:=p;simp only[zuh];by_cases ha:a=k
  ·rw[if_pos ha];subst ha;simp only[zaS,if_true,Option.isSome_some,and_true];by_cases hi:a=i
   ·simp[hi]
   ·rw[if_neg hi,if_neg hi,if_neg (fun e=>hi e.symm)]
  ·rw[if_neg ha];simp only[zaS,if_neg ha,ih];by_cases hi:a=i
   ·rw[if_pos hi,if_pos hi,if_neg (fun e=>ha (hi.trans e.1))]
   ·rw[if_neg hi,if_neg hi]
theorem zIA (l r:List (κ×α)) (i:κ):zaS (l++r) i=(zaS l i).or (zaS r i):=by
 induction l with
 | nil=>simp[zaS]
 | cons p l ih=>
  obtain⟨a,y⟩:=p;simp only[List.cons_append,zaS];split<;>simp_all
theorem zMI (l:List (κ×α)) (k:κ) (x:α) (i:κ):zaS (zv9 l k x) i=if i=k then some x else zaS l i:=by
 unfold zv9;cases h:zaS l k with
 | some y=>simp only[zMH,h,Option.isSome_some,and_true]
 | none=>
  simp only[zIA];by_cases hi:i=k
  ·subst hi;rw[h];simp[zaS]
  ·rw[if_neg hi];simp only[zaS];rw[if_neg (fun e=>hi e.symm)];simp
theorem zMJ (l:List (κ×α)) (k:κ) (x:α):(zv9 l k x).map (·.1)=if (zaS l k).isSome then l.map (·.1) else l.map (·.1)++[k]:=by
 unfold zv9;cases h:zaS l k<;>simp[zMG]
theorem zJ0 {l:List (κ×α)} (h:(l.map (·.1)).Nodup) (k:κ) (x:α):((zv9 l k x).map (·.1)).Nodup:=by
 rw[zMJ];cases hg:zaS l k with
 | some _=>simpa using h
 | none=>
  have:=aget_none.1 hg;simp only[Option.isSome_none,Bool.false_eq_true,if_false];rw[List.nodup_append];exact⟨h,by simp,fun a ha b hb=>by simp at hb;subst hb;exact fun e=>this (e▸ha)⟩
def bset:List (Nat×κ×α)→κ→α→List (Nat×κ×α)
 | [],_,_=>[]
 | (b,k,y)::r,i,x=>if k=i then (b,i,x)::r else (b,k,y)::bset r i x
def zui (l:List (Nat×κ×α)) (clock:Nat) (k:κ) (x:α):List (Nat×κ×α):=match zaS (l.map (·.2)) k with|some _=>bset l k x|none=>l++[(clock,k,x)]
def ztl (l:List (Nat×κ×α)) (clock:Nat) (k:κ):Nat:=match zaS (l.map (·.2)) k with|some _=>clock|none=>clock+1
def zN8 (l:List (Nat×κ×α)) (k:κ):List (Nat×κ×α):=l.filter fun p=>decide (p.2.1≠k)
theorem zN9 (l:List (Nat×κ×α)) (k:κ) (x:α):(bset l k x).map (·.2)=zuh (l.map (·.2)) k x:=by
 induction l with
 | nil=>rfl
 | cons p r ih=>
  obtain⟨b,a,y⟩:=p;simp only[bset,List.map_cons,zuh];split<;>simp[ih]
theorem zEx (l:List (Nat×κ×α)) (k:κ) (x:α):(bset l k x).map (·.1)=l.map (·.1):=by
 induction l with
 | nil=>rfl
 | cons p r ih=>
  obtain⟨b,a,y⟩:=p;simp only[bset];split<;>simp[ih]
theorem zzP (l:List (Nat×κ×α)) (clock:Nat) (k:κ) (x:α):(zui l clock k x).map (·.2)=zv9 (l.map (·.2)) k x:=by
 unfold zui zv9;cases h:zaS (l.map (·.2)) k<;>simp[zN9]
theorem zQh (l:List (Nat×κ×α)):l.map (·.2.1)=(l.map (·.2)).map (·.1):=by simp
theorem MapOk.put {l:List (Nat×κ×α)} {clock:Nat} (h:MapOk l clock) (k:κ) (x:α):MapOk (zui l clock k x) (ztl l clock k):=by
 refine⟨?_,?_,?_⟩
 ·rw[zQh,zzP];exact zJ0 (by rw[←zQh];exact h.keys) k x
 ·unfold zui ztl;cases hg:zaS (l.map (·.2)) k with
  | some y=>
   intro p hp;simp only at hp ⊢;have:p.1∈(bset l k x).map (·.1):=List.mem_map.2 ⟨p,hp,rfl⟩
   rw[zEx] at this;obtain⟨q,hq,e⟩:=List.mem_map.1 this;rw[←e];exact h.old q hq
  | none=>
   intro p hp;simp only[List.mem_append,List.mem_singleton] at hp ⊢;rcases hp with hp|rfl
   ·have:=h.old p hp;omega
   ·simp
 ·unfold zui;cases hg:zaS (l.map (·.2)) k with
  | some y=>simp only[zEx];exact h.apart
  | none=>
   simp only[List.map_append,List.map_cons,List.map_nil];rw[List.nodup_append];refine⟨h.apart,by simp,fun a ha b hb=>?_⟩;simp at hb;subst hb;obtain⟨q,hq,e⟩:=List.mem_map.1 ha;have:=h.old q hq
   intro e';omega
theorem MapOk.empty:MapOk ([]:List (Nat×κ×α)) 0:=⟨by simp,by simp,by simp⟩
variable {kv:κ→Value} {vv:α→Value}
theorem zuj (hk:zBM kv) {k:κ}:∀ {l:List (Nat×κ×α)} (i:Nat),zaS (l.map (·.2)) k=none→kfind (kv k) (l.map (zmb kv vv)) i=some none
 | [],_,_=>rfl
 | (b,a,y)::r,i,h=>by
  simp only[List.map_cons,zaS] at h;split at h
  ·cases h
  ·rename_i hne;simp only[List.map_cons,kfind,zmb,hk k a];rw[decide_eq_false (fun e=>hne e.symm)];exact zuj hk (i+1) h
theorem zuk (hk:zBM kv) {k:κ} {x:α}:∀ {l:List (Nat×κ×α)} (i:Nat),zaS (l.map (·.2)) k=some x→∃ j,kfind (kv k) (l.map (zmb kv vv)) i=some (some (i+j,vv x)) ∧
   (∀ y,((l.map (zmb kv vv)).modify j fun e=>{ e with key:=kv k,val:=vv y })=(bset l k y).map (zmb kv vv))∧(∀ (_:(l.map (·.2.1)).Nodup),(l.map (zmb kv vv)).eraseIdx j=(zN8 l k).map (zmb kv vv))∧j<l.length
 | [],_,h=>by cases h
 | (b,a,y)::r,i,h=>by
  simp only[List.map_cons,zaS] at h;split at h
  ·rename_i e;subst e;cases h;refine⟨0,?_,?_,?_,by simp⟩
   ·simp[kfind,zmb,hk a a]
   ·intro y';simp[zmb,bset]
   ·intro hn;simp only[List.map_cons,List.nodup_cons] at hn;have:∀ p∈r,p.2.1≠a:=fun p hp e=>hn.1 (e▸List.mem_map.2 ⟨p,hp,rfl⟩)
    simp only[List.map_cons,List.eraseIdx_cons_zero,zN8,List.filter_cons,ne_eq,not_true_eq_false,decide_false,Bool.false_eq_true,if_false];rw[List.filter_eq_self.2];intro p hp;simpa using this p hp
  ·rename_i hne;obtain⟨j,h1,h3,h4,h5⟩:=zuk hk (i+1) h;refine⟨j+1,?_,?_,?_,by simp;omega⟩
   ·simp only[List.map_cons,kfind,zmb,hk k a];rw[decide_eq_false (fun e=>hne e.symm)];simp only;rw[h1];congr 3;omega
   ·intro y';simp only[List.map_cons,List.modify_succ_cons,bset,if_neg hne];rw[h3]
   ·intro hn;simp only[List.map_cons,List.nodup_cons] at hn;simp only[List.map_cons,List.eraseIdx_cons_succ];rw[h4 hn.2];simp[zN8,List.filter_cons,hne]
def MapAt (kv:κ→Value) (vv:α→Value) (M:Mem) (b:Nat) (m:List (κ×α)):Prop:=∃ l clock,M b=some (zrq kv vv l clock)∧MapOk l clock∧l.map (·.2)=m
theorem MapAt.mono {M M':Mem} {b:Nat} {m:List (κ×α)} (h:MapAt kv vv M b m) (hb:∀ o,M b=some o→M' b=some o):MapAt kv vv M' b m:=by
 obtain⟨l,c,h0,h1⟩:=h;exact⟨l,c,hb _ h0,h1⟩
theorem MapAt.new (M:Mem) (b:Nat):MapAt kv vv (M.upd b (.map #[] 0)) b []:=⟨[],0,by simp[Mem.upd,zrq],MapOk.empty,rfl⟩
theorem MapAt.get {M:Mem} {b:Nat} {m:List (κ×α)} (h:MapAt kv vv M b m) (hk:zBM kv) (k:κ) {K:Option (Nat×Value)→Prop} (h0:zaS m k=none→K none) (h1:∀ x i,zaS m k=some x→K (some (i,vv x))) :
  onO (M.mapAt b) fun p=>onO (kfind (kv k) p.1.toList 0) K:=by
 obtain⟨l,c,hM,_,rfl⟩:=h;simp only[Mem.mapAt,hM,zrq,onO];cases hg:zaS (l.map (·.2)) k with
 | none=>simp only[zuj hk 0 hg];exact h0 hg
 | some x=>
  obtain⟨j,hj,_⟩:=zuk (vv:=vv) hk 0 hg;simp only[hj];exact h1 x _ hg
theorem MapAt.put {M:Mem} {b:Nat} {m:List (κ×α)} (h:MapAt kv vv M b m) (hk:zBM kv) (k:κ) (x:α) {K:Array MapEntry×Nat→Option (Nat×Value)→Prop}
  (h0:∀ p f,(∀ M':Mem,MapAt kv vv (M'.upd b (mput p f (kv k) (vv x))) b (zv9 m k x))→K p f):onO (M.mapAt b) fun p=>onO (kfind (kv k) p.1.toList 0) fun f=>K p f:=by
 obtain⟨l,c,hM,hok,rfl⟩:=h;simp only[Mem.mapAt,hM,zrq,onO];cases hg:zaS (l.map (·.2)) k with
 | none=>
  simp only[zuj hk 0 hg];refine h0 _ _ fun M'=>⟨zui l c k x,ztl l c k,?_,hok.put k x,zzP ..⟩
  simp[Mem.upd,mput,zrq,zui,ztl,hg,zmb]
 | some y=>
  obtain⟨j,hj,hset,_⟩:=zuk (vv:=vv) hk 0 hg;simp only[hj];refine h0 _ _ fun M'=>⟨zui l c k x,ztl l c k,?_,hok.put k x,zzP ..⟩
  simp[Mem.upd,mput,zrq,zui,ztl,hg,hset]
end
end Go.Vm
namespace Go.Vm
theorem NewSl.rebase2 {M M2 M5:Mem} {E:TypeId} {s:Nat} {a:Option Addr} {n c:Nat} {L:List Value} (h:NewSl M E s a n c L M2) (hle:M2.le M5) {X:Nat→Prop} (hX:∀ x,blk a x→X x):NewSl (M5.minus X) E s a n c L M5:=by
 rw[newSl_iff] at h ⊢;obtain⟨_,h1,h2,h3⟩:=h;exact⟨Mem.minus_le _ _,h1,h2,h3.imp id fun ⟨b,cs,ha,_,hh,hr⟩=>⟨b,cs,ha,Mem.minus_in (hX _ ⟨_,ha,rfl⟩),hle _ _ hh,hr⟩⟩
end Go.Vm
namespace Go.Vm
section
variable {κ α:Type} {kv:κ→Value} {vv:α→Value}
theorem MapAt.nb {M:Mem} {b:Nat} {m:List (κ×α)} (h:MapAt kv vv M b m) {x:Nat} {E:TypeId} {l:List Value} (hx:M.has x E l):x≠b:=by
 rintro rfl;obtain⟨l1,c,h1,_⟩:=h;unfold Mem.has at hx;rw[h1] at hx;simp[zrq] at hx
end
end Go.Vm
namespace Go.Vm
end Go.Vm
namespace Go.Vm
theorem CallsM.frame {P:Program} {f:Nat} {args:List Value} {A M:Mem} {R:Value→Mem→Prop} (h:CallsM P f args A R) (hA:A.le M) :
  CallsM P f args M fun v M'=>∃ A',R v A'∧A'.le M'∧∀ x o,A x=none→M x=some o→M' x=some o∧A' x=none:=by
 refine⟨h.1,fun F w hM hF hdj=>?_⟩;obtain⟨F',hF'⟩:∃ F':Mem,F'=fun x=>if A x=none then (if M x=none then F x else M x) else none:=⟨_,rfl⟩
 have hFF:F.le F':=fun x o hx=>by
  have hMx:M x=none:=(hdj x).resolve_right (by rw[hx];simp)
  have hAx:A x=none:=by
   cases e:A x with
   | none=>rfl
   | some y=>rw[hA x y e] at hMx;cases hMx
  rw[hF'];dsimp only;rw[if_pos hAx,if_pos hMx];exact hx
 have hF'w:F'.le (zq w):=fun x o hx=>by
  rw[hF'] at hx;dsimp only at hx;split at hx
  ·split at hx
   ·exact hF x o hx
   ·exact hM x o hx
  ·cases hx
 have hdj':A.disj F':=fun x=>by
  by_cases e:A x=none
  ·exact .inl e
  ·right;rw[hF'];dsimp only;rw[if_neg e]
 refine(h.2 F' w (fun x o hx=>hM x o (hA x o hx)) hF'w hdj').mono ?_;rintro e w' ⟨v,A',he,hR,hA',hFw',hdA,hrest⟩
 have hin:∀ x o,A x=none→M x=some o→F' x=some o:=fun x o h1 h2=>by
  rw[hF'];dsimp only;rw[if_pos h1,if_neg (by rw[h2];simp)];exact h2
 obtain⟨M',hM'⟩:∃ M':Mem,M'=fun x=>if A' x=none then (if A x=none then M x else none) else A' x:=⟨_,rfl⟩
 refine⟨v,M',he,⟨A',hR,fun x o hx=>by rw[hM'];dsimp only;rw[if_neg (by rw[hx];simp)];exact hx,fun x o h1 h2=>?_⟩,fun x o hx=>?_,fun x o hx=>hFw' x o (hFF x o hx),fun x=>?_,hrest⟩
 ·have:=hin x o h1 h2;have hn:A' x=none:=(hdA x).resolve_right (by rw[this];simp)
  exact⟨by rw[hM'];dsimp only;rw[if_pos hn,if_pos h1];exact h2,hn⟩
 ·rw[hM'] at hx;dsimp only at hx;split at hx
  ·split at hx
   ·exact hFw' x o (hin x o ‹_› hx)
   ·cases hx
  ·exact hA' x o hx
 ·cases e:F x with
  | none=>exact .inr rfl
  | some o=>
   left;have hFx:=hFF x o e
   have hn:A' x=none:=(hdA x).resolve_right (by rw[hFx];simp);have hMx:M x=none:=(hdj x).resolve_right (by rw[e];simp)
   rw[hM'];dsimp only;rw[if_pos hn];split
   ·exact hMx
   ·rfl
end Go.Vm
namespace Go.Vm
end Go.Vm
namespace Go.Vm
section
variable {α:Type} {enc:α→List Value} {s:Nat} (hk:∀ x,(enc x).length=s)
include hk
theorem zJ1:∀ (l:List α) (i j:Nat) (x:α),l[i]? = some x→j<s→(l.flatMap enc)[i*s+j]? = (enc x)[j]?
 | [],i,j,x,h,_=>by simp at h
 | y::r,0,j,x,h,hj=>by
  simp at h;subst h;rw[List.flatMap_cons,Nat.zero_mul,Nat.zero_add,List.getElem?_append_left (by rw[hk];exact hj)]
 | y::r,i+1,j,x,h,hj=>by
  have:=zJ1 r i j x (by simpa using h) hj;rw[List.flatMap_cons,List.getElem?_append_right (by rw[hk,Nat.succ_mul];omega),hk,←this];congr 1;rw[Nat.succ_mul];omega
theorem zSJ (l:List α):(l.flatMap enc).length=l.length*s:=by
 induction l with
 | nil=>simp
 | cons y r ih=>simp[hk,ih,Nat.succ_mul,Nat.add_comm]
theorem SrcOk.flen {M:Mem} {a:Option Addr} {n:Nat} {l:List α} (h:SrcOk M s a n (l.flatMap enc)) (hs:0<s):l.length=n:=by
 have:=h.len;rw[zSJ hk] at this;exact Nat.eq_of_mul_eq_mul_right hs this
theorem SrcOk.fcell {M:Mem} {a:Option Addr} {n:Nat} {l:List α} (h:SrcOk M s a n (l.flatMap enc)) {j p:Nat} {x:α} {v:Value} (hx:l[j]? = some x) (hv:(enc x)[p]? = some v):∃ b o,a=some ⟨b,o,Option.none⟩∧M.row b (o+j*s+p) 1=some [v]:=by
 have hp:p<s:=by rw[←hk x];exact(List.getElem?_eq_some_iff.1 hv).1
 have hj:j<n:=by have:=h.flen hk (by omega);have:=(List.getElem?_eq_some_iff.1 hx).1;omega
 obtain⟨b,o,ha,hr⟩:=h.elem hj (by omega);refine⟨b,o,ha,?_⟩;rw[hr p 1 (by omega)];have hat:=zJ1 hk l j p x hx hp
 rw[hv] at hat;obtain⟨hlt,e⟩:=List.getElem?_eq_some_iff.1 hat;rw[List.drop_eq_getElem_cons hlt,e];simp
theorem SrcOk.fall {M:Mem} {a:Option Addr} {n:Nat} {l:List α} (h:SrcOk M s a n (l.flatMap enc)) (hs:0<s) {j:Nat} {x:α} (hx:l[j]? = some x):∃ b o,a=some ⟨b,o,Option.none⟩∧M.row b (o+j*s) s=some (enc x):=by
 have hj:j<n:=by have:=h.flen hk hs;have:=(List.getElem?_eq_some_iff.1 hx).1;omega
 obtain⟨b,o,ha,hr⟩:=h.elem hj hs;refine⟨b,o,ha,?_⟩;have:=hr 0 s (by omega)
 rw[Nat.add_zero] at this;rw[this];congr 1;apply List.ext_getElem?;intro t;by_cases ht:t<s
 ·rw[List.getElem?_take_of_lt ht,List.getElem?_drop,Nat.add_zero,zJ1 hk l j t x hx ht]
 ·rw[List.getElem?_eq_none (by simp;omega),List.getElem?_eq_none (by rw[hk];omega)]
theorem SrcOk.fcells {M:Mem} {a:Option Addr} {n:Nat} {l:List α} (h:SrcOk M s a n (l.flatMap enc)) (hs:0<s) {j:Nat} {x:α} (hx:l[j]? = some x):∃ b o,a=some ⟨b,o,Option.none⟩∧∀ p v,(enc x)[p]? = some v→M.row b (o+j*s+p) 1=some [v]:=by
 obtain⟨b,o,ha,_⟩:=h.fall hk hs hx;refine⟨b,o,ha,fun p v hv=>?_⟩;obtain⟨b',o',ha',hr⟩:=h.fcell hk hx hv;rw[ha] at ha';cases ha';exact hr
omit hk in
theorem zDi {E:TypeId} {bytes:Nat} {a:Option Addr} {n c:Nat} {news:List Value} {M:Mem} {k:Option Addr→Nat→Mem→Prop} {l:List α} (M0:Mem) (hown:NewSl M0 E s a n c (l.flatMap enc) M) (x:α) (hx:news=enc x)
  (h1:(n+1)*bytes≤140737488355328) (h2:n+1≤maxLen) (h3:∀ u∈news,u.oneCell'=true) (hkk:∀ a' c' M',NewSl M0 E s a' (n+1) c' ((l++[x]).flatMap enc) M'→Mem.keep (blk a) M M'→k a' c' M'):zbO E s bytes a n c 1 news M k:=by
 subst hx;refine appK M0 _ hown h1 h2 h3 fun a' c' M' hn hkp=>hkk a' c' M' ?_ hkp
 rw[List.flatMap_append];simpa using hn
end
end Go.Vm
namespace Go.Vm
open Go.RowKit
theorem WLe.refl (W:World):WLe W W:=⟨rfl,rfl,rfl,Nat.le_refl _,Nat.le_refl _,fun _ _ h=>h⟩
theorem CallsM.world {P:Program} {f:Nat} {args:List Value} {M:Mem} {R:Value→Mem→Prop} (h:CallsM P f args M R) {w:World} (hM:M.le (zq w)) (hR:∀ v M',R v M'→M.le M') :
  Calls P f args.toArray w fun e w'=>∃ v M',e = .returned v∧R v M'∧M'.le (zq w')∧WLe w w'∧∀ b,M b=none→M' b≠none→w.heap.size≤b:=by
 obtain⟨F,hF⟩:∃ F:Mem,F=fun b=>if M b=none then zq w b else none:=⟨_,rfl⟩
 refine(h.2 F w hM (fun b o hb=>?_) (fun b=>?_)).mono ?_
 ·rw[hF] at hb;dsimp only at hb;split at hb
  ·exact hb
  ·cases hb
 ·by_cases e:M b=none
  ·exact .inl e
  ·right;rw[hF];dsimp only;rw[if_neg e]
 ·rintro e w' ⟨v,M',he,hr,hM',hF',hdj,h1,h2,h3,h4,h5⟩;refine⟨v,M',he,hr,hM',⟨h1,h2,h3,h5,h4,fun k o hk=>?_⟩,fun b hb hb'=>?_⟩
  ·by_cases e:M k=none
   ·exact hF' k o (by rw[hF];dsimp only;rw[if_pos e];exact hk)
   ·obtain⟨z,hz⟩:=Option.ne_none_iff_exists'.1 e;have h6:=hM k z hz
    have:o=z:=Option.some.inj (hk.symm.trans h6);subst this;exact hM' k o (hR v M' hr k o hz)
  ·have h6:=(hdj b).resolve_left hb';rw[hF] at h6;dsimp only at h6;rw[if_pos hb] at h6;apply Classical.byContradiction;intro hlt;have:w.heap[b]? = none:=h6
   rw[Array.getElem?_eq_none_iff] at this;exact hlt this
theorem zMK {P:Program} {asg body:(Exit→St→Prop)→St→Prop} {ps:List Nat} {gf:Nat} {lb:List Value} {Q:Exit→St→Prop} {fr:List (Nat×SV)} {bx:List BE} {M:Mem} {α:Type} {encs:α→List Value} {A:Mem} {N:Nat} {PM:α→Mem→Prop} {D:List α→Prop}
  (hit:zJH P gf lb encs A N PM D) (hen:zj3 P gf=true) (hbx:bx.all zQd=true) (hA:A.le M) (hlen:∀ x,(encs x).length=ps.length) (I:List α→Mem→Prop) (M0:Mem) (hM0:M0.le M) (hAM:∀ b,A b≠none→M0 b=none) (hI:I [] M0)
  (hround:∀ pre x M Mx M1,I pre M→pre.length<N→PM x Mx→(∀ b,Mx b≠none→M b=none∧A b=none)→M.le M1→Mx.le M1 →
   asg (fun e t=>e = .normal∧body (fun e t'=>e = .normal∧∃ M2,I (pre++[x]) M2∧M2.le t'.M) t) ⟨zJI ps (encs x) fr,bx,M1⟩)
  (hdone:∀ xs M M1,D xs→I xs M→(∀ b,A b≠none→M b=none)→M.le M1→A.le M1→Q .normal ⟨fr,bx,M1⟩):zI8 P asg body ps gf lb Q ⟨fr,bx,M⟩:=
 ⟨hen,hbx,α,encs,A,N,PM,D,I,hit,hA,hlen,⟨M0,hM0,hAM,hI⟩,hround,hdone⟩
end Go.Vm
