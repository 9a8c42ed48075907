/- Part of this proof;laid by program. -/
import Derived.Test.YtpnhjkiligohnaaGreatDoorJ6
import Derived.Test.YtpnhjkiligohnaaGreatDoorJ8
import Derived.Test.YtpnhjkiligohnaaGreatDoorJ7
set_option linter.unusedVariables false
set_option linter.unusedSimpArgs false
namespace Go.Proofs.YtpnhjkiligohnaaGreatDoor
open Go.Vm Go.Vm.S
section
def zzZ:RCode:=q (p [mv 6 kg] [6]) (q (p [mv 7 0,mv 8 1,ib 9 .geq 7 8,os 10 (.mov 9),gm 10 11 0,gm 10 12 2,gt 10 13 (.ibin .leq 11 12),pk 14 10 13 kg,mv 6 14] (0::1::2::rg 7 8)) .ret)
def zz0:List zc:=[.tmp 6]
theorem zyD:FO Tryz.prog F.zdt 15 zzZ zz0:=fk Tryz.func128
def zz1:RCode:=q (p [mv 2 kg] [2]) (q (p [mv 3 0,ib 4 .geq 3 (k 0),os 5 (.mov 4),gm 5 6 0,gt 5 7 (.ibin .lss 6 (k 64)),pk 8 5 7 kg,mv 2 8] (0::rg 3 6)) .ret)
def zz2:List zc:=[.tmp 2]
theorem zyE:FO Tryz.prog F.zbc 9 zz1 zz2:=fk Tryz.func129
def zsu:RCode:=q (p [mv 2 (k 0)] [2]) (q (q (p [mv 3 0,o 4 (.pnil .eql 3 pn)] [3]) (c 4 (q (p [mv 2 (k 0)] []) .ret) .skip)) (q (p [mv 5 0,nk 6 5,fa 7 8 6,l1 8 7,mv 2 8] (0::rg 5 4)) .ret))
def zsv:List zc:=[.tmp 2]
theorem zrv:FO Tryz.prog F.zaG 9 zsu zsv:=fk Tryz.func138
def zus:RCode:=q (p [mv 13 0,nk 14 13,fa 15 11 14,l1 16 15,ca 17 F.zaN [16],mv 4 17] (rg 13 5)) (q (q (p [mv 18 4,ln 19 18,ib 20 .eql 19 (k 0)] [18,19]) (c 20 .ret .skip)) (q (p [o 21 (.mkSlN 3 8 [i 0] (k 64) (k 64)),mv 5 21] [21]) (q (q (p [mv 22 5,ln 23 22,mv 24 (k 0)] [22]) (.block 0 (.loop (q (p [ib 25 .lss 24 23] []) (q (c 25 .skip (.exit 0)) (q (.block 1 (q (p [mv 26 24,mv 6 26] [26]) (p [mv 27 5,mv 28 6,ia 29 1 27 28,st 1 29 (k (-1))] [6,27,28,29]))) (p [ad 30 24 (k 1),mv 24 30] [30]))))))) (q (q (p [mv 31 4,ln 32 31,mv 33 (k 0)] []) (.block 2 (.loop (q (p [ib 34 .lss 33 32] []) (q (c 34 .skip (.exit 2)) (q (.block 3 (q (p [ia 35 5 31 33,la 36 5 35,o 8 (.alloc 175 (z 4 [sn])),st 5 8 36] [35,36]) (q (.draw (w (mv 38 0) (w (nk 39 38) (w (fa 40 13 39) (w (l1 41 40) (w (fa 42 0 8) (w (fa 43 1 42) (w (l1 44 43) (A (ca 45 F.zbX [41,44]) false (w (mv 37 45) (w (ex 46 37 0) (w (ex 47 37 1) (w (mv 9 46) (w (mv 10 47) .done))))) .none)))))))) (rg 37 11)) (q (p [mv 48 10] [10]) (c 48 (p [mv 49 5,fa 50 0 8,fa 51 1 50,l1 52 51,mv 53 9,ia 54 1 49 52,st 1 54 53] (8::9::rg 49 6)) .skip))))) (p [ad 55 33 (k 1),mv 33 55] [55]))))))) (q (p [mv 56 0,nk 57 56,fa 58 14 57,l1 59 58,mv 60 4,mv 61 5,mv 62 1,ca 63 F.zgk [59,60,61,62],ln 64 63,mv 65 (k 0)] (1::4::5::rg 56 7)) (.block 4 (.loop (q (p [ib 66 .lss 65 64] []) (q (c 66 .skip (.exit 4)) (q (.block 5 (q (p [ia 67 7 63 65,la 68 7 67,o 12 (.alloc 301 (z 6 [sn])),st 7 12 68] [67,68]) (q (p [mv 69 0,fa 70 0 12,l1 71 70,fa 72 1 12,l1 73 72,fa 74 2 12,la 75 5 74,o 76 (.build (z 6 [sn,sn]) [(0,1,(k 1)),(1,1,73),(2,5,75)]),ca 77 F.zb4 [69,71,76],ib 78 .neq 77 (k 0)] (rg 69 9)) (c 78 (.draw (w (mv 79 0) (w (nk 80 79) (w (fa 81 14 80) (w (l1 82 81) (w (fa 83 2 12) (w (fa 84 0 83) (w (la 85 4 84) (A (ca 86 F.zot [82,85]) false .done .none)))))))) (12::rg 79 8)) .skip)))) (p [ad 87 65 (k 1),mv 65 87] [87])))))))))))
def zut:List zc:=[]
theorem zsw:FO Tryz.prog F.zbP 88 zus zut:=fk Tryz.func140
def zxB:RCode:=q (p [mv 2 (.const sn)] [2]) (q (q (p [mv 4 0,o 5 (.pnil .eql 4 pn)] [4]) (c 5 (q (p [mv 2 (.const sn)] []) .ret) .skip)) (q (p [mv 6 0,nk 7 6,fa 8 13 7,l1 9 8,mv 3 9] (rg 6 4)) (q (p [mv 10 0,nk 11 10,fa 12 13 11,st 1 12 (.const sn)] [0,10,11,12]) (q (p [mv 13 3,mv 2 13] [3,13]) .ret))))
def zxC:List zc:=[.tmp 2]
theorem zv3:FO Tryz.prog F.zco 14 zxB zxC:=fk Tryz.func141
def zpu:RCode:=q (p [mv 2 (.const sn)] [2]) (q (q (p [mv 5 0,o 6 (.pnil .eql 5 pn)] [5]) (c 6 (q (p [mv 2 (.const sn)] []) .ret) .skip)) (q (p [o 3 (.alloc 99 [sn])] []) (q (q (.draw (w (mv 7 0) (w (nk 8 7) (w (fa 9 1 8) (w (l1 10 9) (w (mv 11 0) (w (nk 12 11) (w (fa 13 3 12) (w (l1 14 13) (A (ca 15 F.ziE [10,14]) false .done .none))))))))) (0::rg 7 8)) (.block 0 (.rfun (15) [16] (p [mv 4 16] [16]) (.block 1 (p [l1 17 3,mv 18 4,o 19 (.mkSl true 3 1 [i 0] [(0,1,18)]),o 20 (.app 3 1 8 [i 0] 17 19),st 1 3 20] (4::rg 17 4)))))) (q (p [l1 21 3,mv 2 21] [3,21]) .ret))))
def zpv:List zc:=[.tmp 2]
theorem ziu:FO Tryz.prog F.za0 22 zpu zpv:=fk Tryz.func161
def zz3:RCode:=q (p [o 2 (.box 3 0),o 3 (.box 3 1),mv 4 (.const .nilFunc)] [0,1,4]) (q (p [o 5 (.mkfn F.zkq [3,2]),mv 4 5] [2,3,5]) .ret)
def zz4:List zc:=[.tmp 4]
theorem zyF:FO Tryz.prog F.ziE 6 zz3 zz4:=fk Tryz.func225
end
section
def zxD:RCode:=q (p [mv 2 (k 0)] [2]) (q (p [mv 3 0,ib 4 .and 3 (k 127),mv 2 4] [0,3,4]) .ret)
def zxE:List zc:=[.tmp 2]
theorem zv4:FO Tryz.prog F.zag 5 zxD zxE:=fk Tryz.func285
end
section
def zz5:RCode:=q (p [mv 4 (.const sn)] [4]) (q (p [mv 8 1,ca 9 F.zem [8],o 5 (.alloc 433 [.bool false,.bool false,.bool false,.bool false,.bool false,.bool false,.bool false,.bool false,.bool false,.bool false,.bool false,.bool false,.bool false,.bool false,.bool false,.bool false,.bool false,.bool false,.bool false,.bool false,.bool false,.bool false,.bool false,.bool false,.bool false,.bool false,.bool false,.bool false,.bool false,.bool false,.bool false,.bool false,.bool false,.bool false,.bool false,.bool false,.bool false,.bool false,.bool false,.bool false,.bool false,.bool false,.bool false,.bool false,.bool false,.bool false,.bool false,.bool false,.bool false,.bool false,.bool false,.bool false,.bool false,.bool false,.bool false,.bool false,.bool false,.bool false,.bool false,.bool false,.bool false,.bool false,.bool false,.bool false,.bool false,.bool false,.bool false,.bool false,.bool false,.bool false,.bool false,.bool false,.bool false,.bool false,.bool false,.bool false,.bool false,.bool false,.bool false,.bool false,.bool false,.bool false,.bool false,.bool false,.bool false,.bool false,.bool false,.bool false,.bool false,.bool false,.bool false,.bool false,.bool false,.bool false,.bool false,.bool false,.bool false,.bool false,.bool false,.bool false,.bool false,.bool false,.bool false,.bool false,.bool false,.bool false,.bool false,.bool false,.bool false,.bool false,.bool false,.bool false,.bool false,.bool false,.bool false,.bool false,.bool false,.bool false,.bool false,.bool false,.bool false,.bool false,.bool false,.bool false,.bool false,.bool false,.bool false,.bool false]),st 128 5 9] [1,8,9]) (q (p [o 6 (.alloc 99 [sn])] []) (q (q (p [mv 10 0,ca 11 F.ziE [10,k 128]] [0,10]) (.block 0 (.rfun (11) [12] (p [mv 7 12] [12]) (.block 1 (q (p [mv 13 7,o 14 (.iaddrA 128 1 5 13),l1 15 14] [5,13,14]) (c 15 (p [l1 16 6,mv 17 7,o 18 (.mkSl true 3 1 [i 0] [(0,1,17)]),o 19 (.app 3 1 8 [i 0] 16 18),st 1 6 19] (7::rg 16 4)) .skip)))))) (q (p [l1 20 6,mv 4 20] [6,20]) .ret))))
def zz6:List zc:=[.tmp 4]
theorem zyG:FO Tryz.prog F.ziF 21 zz5 zz6:=fk Tryz.func390
end
end Go.Proofs.YtpnhjkiligohnaaGreatDoor
namespace Go.Proofs.YtpnhjkiligohnaaGreatDoor
open Go Go.Vm
@[reducible] def zbw (n:Int):Value := .int .i64 n
@[reducible] def ptr (p:Nat):Value := .pointer (some ⟨p,0,none⟩)
end Go.Proofs.YtpnhjkiligohnaaGreatDoor
namespace Go.Vm
set_option linter.unusedSectionVars false
set_option linter.unusedSimpArgs false
section
section
variable {κ α:Type} [DecidableEq κ]
def zqj (kv:κ→Value):Prop:=∀ a b,zeP (kv a) (kv b)=some (decide (a=b))
def za2 (kv:κ→Value) (vv:α→Value) (p:Nat×κ×α):MapEntry:={ key:=kv p.2.1,val:=vv p.2.2,born:=p.1 }
def zcW (kv:κ→Value) (vv:α→Value) (l:List (Nat×κ×α)) (clock:Nat):Obj := .map (l.map (za2 kv vv)).toArray clock
structure MapOk (l:List (Nat×κ×α)) (clock:Nat):Prop where
 keys:(l.map (·.2.1)).Nodup
 old:∀ p∈l,p.1<clock
 apart:(l.map (·.1)).Nodup
def zL:List (κ×α)→κ→Option α
 | [],_=>none
 | (k,x)::r,i=>if k=i then some x else zL r i
def zqk:List (κ×α)→κ→α→List (κ×α)
 | [],_,_=>[]
 | (k,y)::r,i,x=>if k=i then (i,x)::r else (k,y)::zqk r i x
def zoM (l:List (κ×α)) (k:κ) (x:α):List (κ×α):=match zL l k with|some _=>zqk l k x|none=>l++[(k,x)]
theorem aget_none {l:List (κ×α)} {k:κ}:zL l k=none↔k∉l.map (·.1):=by
 induction l with
 | nil=>simp[zL]
 | cons p r ih=>
  obtain⟨a,x⟩:=p;simp only[zL];split
  ·rename_i h;subst h;simp
  ·rename_i h;rw[ih];simp[Ne.symm h]
theorem zv5 {l:List (κ×α)} {k:κ} {x:α} (h:zL l k=some x):(k,x)∈l:=by
 induction l with
 | nil=>cases h
 | cons p r ih=>
  obtain⟨a,y⟩:=p;simp only[zL] at h;split at h
  ·rename_i e;subst e;cases h;simp
  ·exact List.mem_cons_of_mem _ (ih h)
theorem zCm {l:List (κ×α)} (hn:(l.map (·.1)).Nodup) {k:κ} {x:α} (h:(k,x)∈l):zL l k=some x:=by
 induction l with
 | nil=>cases h
 | cons p r ih=>
  obtain⟨a,y⟩:=p;simp only[List.map_cons,List.nodup_cons] at hn;simp only[zL];rcases List.mem_cons.1 h with e|e
  ·cases e;simp
  ·split
   ·rename_i ha;subst ha;exact absurd (List.mem_map.2 ⟨_,e,rfl⟩) hn.1
   ·exact ih hn.2 e
theorem zGm (l:List (κ×α)) (k:κ) (x:α):(zqk l k x).map (·.1)=l.map (·.1):=by
 induction l with
 | nil=>rfl
 | cons p r ih=>
  obtain⟨a,y⟩:=p;simp only[zqk];split
  ·rename_i e;simp[e]
  ·simp[ih]
theorem zGn (l:List (κ×α)) (k:κ) (x:α) (i:κ):zL (zqk l k x) i=if i=k∧(zL l k).isSome then some x else zL l i:=by
 induction l with
 | nil=>simp[zqk,zL]
 | cons p r ih=>
  obtain⟨a,y⟩:=p;simp only[zqk];by_cases ha:a=k
  ·rw[if_pos ha];subst ha;simp only[zL,if_true,Option.isSome_some,and_true];by_cases hi:a=i
   ·simp[hi]
   ·rw[if_neg hi,if_neg hi,if_neg (fun e=>hi e.symm)]
  ·rw[if_neg ha];simp only[zL,if_neg ha,ih];by_cases hi:a=i
   ·rw[if_pos hi,if_pos hi,if_neg (fun e=>ha (hi.trans e.1))]
   ·rw[if_neg hi,if_neg hi]
theorem zCn (l r:List (κ×α)) (i:κ):zL (l++r) i=(zL l i).or (zL r i):=by
 induction l with
 | nil=>simp[zL]
 | cons p l ih=>
  obtain⟨a,y⟩:=p;simp only[List.cons_append,zL];split<;>simp_all
theorem zGo (l:List (κ×α)) (k:κ) (x:α) (i:κ):zL (zoM l k x) i=if i=k then some x else zL l i:=by
 unfold zoM;cases h:zL l k with
 | some y=>simp only[zGn,h,Option.isSome_some,and_true]
 | none=>
  simp only[zCn];by_cases hi:i=k
  ·subst hi;rw[h];simp[zL]
  ·rw[if_neg hi];simp only[zL];rw[if_neg (fun e=>hi e.symm)];simp
theorem zGp (l:List (κ×α)) (k:κ) (x:α):(zoM l k x).map (·.1)=if (zL l k).isSome then l.map (·.1) else l.map (·.1)++[k]:=by
 unfold zoM;cases h:zL l k<;>simp[zGm]
theorem zDR {l:List (κ×α)} (h:(l.map (·.1)).Nodup) (k:κ) (x:α):((zoM l k x).map (·.1)).Nodup:=by
 rw[zGp];cases hg:zL l k with
 | some _=>simpa using h
 | none=>
  have:=aget_none.1 hg;simp only[Option.isSome_none,Bool.false_eq_true,if_false];rw[List.nodup_append];exact⟨h,by simp,fun a ha b hb=>by simp at hb;subst hb;exact fun e=>this (e▸ha)⟩
def bset:List (Nat×κ×α)→κ→α→List (Nat×κ×α)
 | [],_,_=>[]
 | (b,k,y)::r,i,x=>if k=i then (b,i,x)::r else (b,k,y)::bset r i x
def zql (l:List (Nat×κ×α)) (clock:Nat) (k:κ) (x:α):List (Nat×κ×α):=match zL (l.map (·.2)) k with|some _=>bset l k x|none=>l++[(clock,k,x)]
def zpw (l:List (Nat×κ×α)) (clock:Nat) (k:κ):Nat:=match zL (l.map (·.2)) k with|some _=>clock|none=>clock+1
def zHM (l:List (Nat×κ×α)) (k:κ):List (Nat×κ×α):=l.filter fun p=>decide (p.2.1≠k)
theorem zHN (l:List (Nat×κ×α)) (k:κ) (x:α):(bset l k x).map (·.2)=zqk (l.map (·.2)) k x:=by
 induction l with
 | nil=>rfl
 | cons p r ih=>
  obtain⟨b,a,y⟩:=p;simp only[bset,List.map_cons,zqk];split<;>simp[ih]
theorem zzA (l:List (Nat×κ×α)) (k:κ) (x:α):(bset l k x).map (·.1)=l.map (·.1):=by
 induction l with
 | nil=>rfl
 | cons p r ih=>
  obtain⟨b,a,y⟩:=p;simp only[bset];split<;>simp[ih]
theorem zv6 (l:List (Nat×κ×α)) (clock:Nat) (k:κ) (x:α):(zql l clock k x).map (·.2)=zoM (l.map (·.2)) k x:=by
 unfold zql zoM;cases h:zL (l.map (·.2)) k<;>simp[zHN]
theorem zJ6 (l:List (Nat×κ×α)):l.map (·.2.1)=(l.map (·.2)).map (·.1):=by simp
theorem MapOk.put {l:List (Nat×κ×α)} {clock:Nat} (h:MapOk l clock) (k:κ) (x:α):MapOk (zql l clock k x) (zpw l clock k):=by
 refine⟨?_,?_,?_⟩
 ·rw[zJ6,zv6];exact zDR (by rw[←zJ6];exact h.keys) k x
 ·unfold zql zpw;cases hg:zL (l.map (·.2)) k with
  | some y=>
   intro p hp;simp only at hp ⊢;have:p.1∈(bset l k x).map (·.1):=List.mem_map.2 ⟨p,hp,rfl⟩
   rw[zzA] at this;obtain⟨q,hq,e⟩:=List.mem_map.1 this;rw[←e];exact h.old q hq
  | none=>
   intro p hp;simp only[List.mem_append,List.mem_singleton] at hp ⊢;rcases hp with hp|rfl
   ·have:=h.old p hp;omega
   ·simp
 ·unfold zql;cases hg:zL (l.map (·.2)) k with
  | some y=>simp only[zzA];exact h.apart
  | none=>
   simp only[List.map_append,List.map_cons,List.map_nil];rw[List.nodup_append];refine⟨h.apart,by simp,fun a ha b hb=>?_⟩;simp at hb;subst hb;obtain⟨q,hq,e⟩:=List.mem_map.1 ha;have:=h.old q hq
   intro e';omega
theorem MapOk.empty:MapOk ([]:List (Nat×κ×α)) 0:=⟨by simp,by simp,by simp⟩
variable {kv:κ→Value} {vv:α→Value}
theorem zqm (hk:zqj kv) {k:κ}:∀ {l:List (Nat×κ×α)} (i:Nat),zL (l.map (·.2)) k=none→kfind (kv k) (l.map (za2 kv vv)) i=some none
 | [],_,_=>rfl
 | (b,a,y)::r,i,h=>by
  simp only[List.map_cons,zL] at h;split at h
  ·cases h
  ·rename_i hne;simp only[List.map_cons,kfind,za2,hk k a];rw[decide_eq_false (fun e=>hne e.symm)];exact zqm hk (i+1) h
theorem zqn (hk:zqj kv) {k:κ} {x:α}:∀ {l:List (Nat×κ×α)} (i:Nat),zL (l.map (·.2)) k=some x→∃ j,kfind (kv k) (l.map (za2 kv vv)) i=some (some (i+j,vv x)) ∧
   (∀ y,((l.map (za2 kv vv)).modify j fun e=>{ e with key:=kv k,val:=vv y })=(bset l k y).map (za2 kv vv))∧(∀ (_:(l.map (·.2.1)).Nodup),(l.map (za2 kv vv)).eraseIdx j=(zHM l k).map (za2 kv vv))∧j<l.length
 | [],_,h=>by cases h
 | (b,a,y)::r,i,h=>by
  simp only[List.map_cons,zL] at h;split at h
  ·rename_i e;subst e;cases h;refine⟨0,?_,?_,?_,by simp⟩
   ·simp[kfind,za2,hk a a]
   ·intro y';simp[za2,bset]
   ·intro hn;simp only[List.map_cons,List.nodup_cons] at hn;have:∀ p∈r,p.2.1≠a:=fun p hp e=>hn.1 (e▸List.mem_map.2 ⟨p,hp,rfl⟩)
    simp only[List.map_cons,List.eraseIdx_cons_zero,zHM,List.filter_cons,ne_eq,not_true_eq_false,decide_false,Bool.false_eq_true,if_false];rw[List.filter_eq_self.2];intro p hp;simpa using this p hp
  ·rename_i hne;obtain⟨j,h1,h3,h4,h5⟩:=zqn hk (i+1) h;refine⟨j+1,?_,?_,?_,by simp;omega⟩
   ·simp only[List.map_cons,kfind,za2,hk k a];rw[decide_eq_false (fun e=>hne e.symm)];simp only;rw[h1];congr 3;omega
   ·intro y';simp only[List.map_cons,List.modify_succ_cons,bset,if_neg hne];rw[h3]
   ·intro hn;simp only[List.map_cons,List.nodup_cons] at hn;simp only[List.map_cons,List.eraseIdx_cons_succ];rw[h4 hn.2];simp[zHM,List.filter_cons,hne]
def MapAt (kv:κ→Value) (vv:α→Value) (M:Mem) (b:Nat) (m:List (κ×α)):Prop:=∃ l clock,M b=some (zcW kv vv l clock)∧MapOk l clock∧l.map (·.2)=m
theorem MapAt.mono {M M':Mem} {b:Nat} {m:List (κ×α)} (h:MapAt kv vv M b m) (hb:∀ o,M b=some o→M' b=some o):MapAt kv vv M' b m:=by
 obtain⟨l,c,h0,h1⟩:=h;exact⟨l,c,hb _ h0,h1⟩
theorem MapAt.new (M:Mem) (b:Nat):MapAt kv vv (M.upd b (.map #[] 0)) b []:=⟨[],0,by simp[Mem.upd,zcW],MapOk.empty,rfl⟩
theorem MapAt.get {M:Mem} {b:Nat} {m:List (κ×α)} (h:MapAt kv vv M b m) (hk:zqj kv) (k:κ) {K:Option (Nat×Value)→Prop} (h0:zL m k=none→K none) (h1:∀ x i,zL m k=some x→K (some (i,vv x))) :
  onO (M.mapAt b) fun p=>onO (kfind (kv k) p.1.toList 0) K:=by
 obtain⟨l,c,hM,_,rfl⟩:=h;simp only[Mem.mapAt,hM,zcW,onO];cases hg:zL (l.map (·.2)) k with
 | none=>simp only[zqm hk 0 hg];exact h0 hg
 | some x=>
  obtain⟨j,hj,_⟩:=zqn (vv:=vv) hk 0 hg;simp only[hj];exact h1 x _ hg
theorem MapAt.put {M:Mem} {b:Nat} {m:List (κ×α)} (h:MapAt kv vv M b m) (hk:zqj kv) (k:κ) (x:α) {K:Array MapEntry×Nat→Option (Nat×Value)→Prop}
  (h0:∀ p f,(∀ M':Mem,MapAt kv vv (M'.upd b (mput p f (kv k) (vv x))) b (zoM m k x))→K p f):onO (M.mapAt b) fun p=>onO (kfind (kv k) p.1.toList 0) fun f=>K p f:=by
 obtain⟨l,c,hM,hok,rfl⟩:=h;simp only[Mem.mapAt,hM,zcW,onO];cases hg:zL (l.map (·.2)) k with
 | none=>
  simp only[zqm hk 0 hg];refine h0 _ _ fun M'=>⟨zql l c k x,zpw l c k,?_,hok.put k x,zv6 ..⟩
  simp[Mem.upd,mput,zcW,zql,zpw,hg,za2]
 | some y=>
  obtain⟨j,hj,hset,_⟩:=zqn (vv:=vv) hk 0 hg;simp only[hj];refine h0 _ _ fun M'=>⟨zql l c k x,zpw l c k,?_,hok.put k x,zv6 ..⟩
  simp[Mem.upd,mput,zcW,zql,zpw,hg,hset]
end
end
section
section
variable {κ α:Type} [DecidableEq κ] {kv:κ→Value} {vv:α→Value}
def Iter (kv:κ→Value) (vv:α→Value) (M:Mem) (b m:Nat) (cur todo:List (κ×α)):Prop:=
 ∃ (l:List (Nat×κ×α)) (clock:Nat) (seen:List Nat) (tb:List (Nat×κ×α)),M m=some (zcW kv vv l clock)∧MapOk l clock∧l.map (·.2)=cur∧M b=some (.mapIter (some m) clock (List.toArray seen) clock) ∧
  (∀ p∈l,p.1∈seen∨p∈tb)∧(∀ p∈tb,p∈l∧p.1∉seen)∧(tb.map (·.1)).Nodup∧tb.map (·.2)=todo
theorem Iter.mono {M M':Mem} {b m:Nat} {cur todo:List (κ×α)} (h:Iter kv vv M b m cur todo) (hb:∀ c o,c=b∨c=m→M c=some o→M' c=some o):Iter kv vv M' b m cur todo:=by
 obtain⟨l,c,seen,tb,h1,h2,h3,h4,hr⟩:=h;exact⟨l,c,seen,tb,hb _ _ (.inr rfl) h1,h2,h3,hb _ _ (.inl rfl) h4,hr⟩
theorem Iter.keep {M M':Mem} {b m:Nat} {cur todo:List (κ×α)} {S:Nat→Prop} (h:Iter kv vv M b m cur todo) (hk:Mem.keep S M M') (h1:¬S b) (h2:¬S m):Iter kv vv M' b m cur todo:=
 h.mono fun c o hc=>hk c o (by rcases hc with rfl|rfl<;>assumption)
theorem Iter.ne {M:Mem} {b m:Nat} {cur todo:List (κ×α)} (h:Iter kv vv M b m cur todo):b≠m:=by
 obtain⟨l,c,seen,tb,h1,h2,h3,h4,hr⟩:=h;rintro rfl;rw[h1] at h4;simp[zcW] at h4
theorem zHO {β γ:Type} {l:List (β×γ)} (h:(l.map (·.1)).Nodup):l.Nodup:=by
 induction l with
 | nil=>simp
 | cons p r ih=>
  simp only[List.map_cons,List.nodup_cons] at h ⊢;exact⟨fun hp=>h.1 (List.mem_map.2 ⟨p,hp,rfl⟩),ih h.2⟩
theorem MapAt.range {M:Mem} {m:Nat} {cur:List (κ×α)} (h:MapAt kv vv M m cur) {K:Array MapEntry×Nat→Nat→Prop}
  (hk:∀ p b,M b=none→Iter kv vv (M.upd b (.mapIter (some m) p.2 #[] p.2)) b m cur cur→K p b) :
  onO (M.mapAt m) fun p=>New M fun b=>K p b:=by
 obtain⟨l,c,hM,hok,rfl⟩:=h;simp only[Mem.mapAt,hM,zcW,onO];intro b hb;have hne:m≠b:=fun e=>by subst e;rw[hb] at hM;cases hM
 refine hk _ b hb ⟨l,c,[],l,?_,hok,rfl,by simp[Mem.upd],fun p hp => .inr hp,fun p hp=>⟨hp,by simp⟩,hok.apart,rfl⟩;rw[Mem.upd_ne _ _ hne,hM]
theorem Iter.next {M:Mem} {b m:Nat} {cur todo:List (κ×α)} (h:Iter kv vv M b m cur todo) {A:Prop} {k:SV→Mem→Prop} (h0:todo=[]→k (.c (.v (.tuple #[.bool false]))) M)
  (h1:∀ i x todo' o,todo.Perm ((i,x)::todo')→Iter kv vv (M.upd b o) b m cur todo'→zak (M.upd b o) b=some (kv i,vv x)→k (.c (.v (.tuple #[.bool true,kv i,vv x]))) (M.upd b o)) :
  onO (M.iterAt b) fun t=>zpX t.1 A (fun m=>onO (M.mapAt m) fun p=>zaV M b t.2.1 t.2.2.2 m t.2.2.1 p.1 p.2 k):=by
 have hne:=h.ne;obtain⟨l,c,seen,tb,hM,hok,rfl,hI,h5,h6,h7,rfl⟩:=h;simp only[Mem.iterAt,hI,onO,zpX,Mem.mapAt,hM,zcW];refine⟨?_,?_,?_⟩
 ·cases hl:l with
  | nil=>right;left;simp
  | cons p r=>
   right;right;refine⟨za2 kv vv p,by simp,?_⟩;exact hok.old p (by rw[hl];simp)
 ·intro hall;apply h0;cases htb:tb with
  | nil=>rfl
  | cons p r=>
   exfalso;obtain⟨hp,hns⟩:=h6 p (by rw[htb];simp);have hp1:=hok.old p hp
   rcases hall (za2 kv vv p) (by simp only[List.mem_map];exact⟨p,hp,rfl⟩) with hc|hc
   ·simp only[za2,List.contains_toArray,List.contains_iff_mem] at hc;exact hns hc
   ·simp only[za2] at hc;omega
 ·intro e he hns;simp only[List.mem_map] at he;obtain⟨p,hp,rfl⟩:=he;have hns':p.1∉seen:=by simpa[za2] using hns
  have hpt:p∈tb:=(h5 p hp).resolve_left hns';obtain⟨u,v,rfl⟩:=List.append_of_mem hpt;have hperm:(u++p::v).Perm (p::(u++v)):=List.perm_middle
  refine h1 p.2.1 p.2.2 ((u++v).map (·.2)) _ (hperm.map (·.2)) ?_ ?_
  ·refine⟨l,c,seen++[p.1],u++v,?_,hok,rfl,?_,?_,?_,?_,rfl⟩
   ·rw[Mem.upd_ne _ _ (Ne.symm hne),hM]
   ·rw[Mem.upd_same];simp[za2]
   ·intro q hq;rcases h5 q hq with hs|hs
    ·left;simp[hs]
    ·simp only[List.mem_append,List.mem_cons] at hs;rcases hs with hs|rfl|hs
     ·right;simp[hs]
     ·left;simp
     ·right;simp[hs]
   ·intro q hq;have hq':q∈u++p::v:=by simp only[List.mem_append,List.mem_cons] at hq ⊢; rcases hq with hq|hq<;>simp[hq]
    obtain⟨h8,h9⟩:=h6 q hq';refine⟨h8,?_⟩;simp only[List.mem_append,List.mem_singleton,not_or];refine⟨h9,fun e=>?_⟩;have hnd:((p::(u++v)).map (·.1)).Nodup:=(hperm.map (·.1)).nodup_iff.1 h7
    simp only[List.map_cons,List.nodup_cons] at hnd;exact hnd.1 (e▸List.mem_map.2 ⟨q,hq,rfl⟩)
   ·have hnd:((p::(u++v)).map (·.1)).Nodup:=(hperm.map (·.1)).nodup_iff.1 h7;simp only[List.map_cons,List.nodup_cons] at hnd;exact hnd.2
  ·have e1:(M.upd b (.mapIter (some m) c ((List.toArray seen).push (za2 kv vv p).born) c)) m=some (zcW kv vv l c):=by rw[Mem.upd_ne _ _ (Ne.symm hne),hM]
   simp only[zak,Mem.iterAt,Mem.upd_same,Mem.mapAt,e1,zcW,Array.back?_push,if_true]
   have hf:(List.map (za2 kv vv) l).toArray.find? (fun x=>x.born == (za2 kv vv p).born)=some (za2 kv vv p):=by
    rw[List.find?_toArray];rw[List.find?_map]
    have:l.find? ((fun x=>x.born == (za2 kv vv p).born)∘za2 kv vv)=some p:=by
     have hap:=hok.apart;clear h5 h6 h7 hns hns' hpt hperm hok hM e1 h0 h1
     induction l with
     | nil=>cases hp
     | cons q r ih=>
      simp only[List.map_cons,List.nodup_cons] at hap;rw[List.find?_cons];rcases List.mem_cons.1 hp with rfl|hp
      ·simp[za2]
      ·have hne:q.1≠p.1:=fun e=>hap.1 (e▸List.mem_map.2 ⟨p,hp,rfl⟩)
       have hb:((fun x=>x.born == (za2 kv vv p).born)∘za2 kv vv) q=false:=by simpa[za2] using hne
       rw[hb];exact ih hp hap.2
    rw[this];rfl
   rw[hf];rfl
end
end
end Go.Vm
namespace Go.Vm
end Go.Vm
namespace Go.Vm
theorem NewSl.ofWr {M M1 M2:Mem} {E E':TypeId} {s s':Nat} {a a':Option Addr} {n c n' c':Nat} {L L':List Value} (h:NewSl M E s a n c L M1) (hw:Wr M2 E' s' a' n' c' L') (hk:Mem.keep (blk a) M1 M2) (ha:blk a=blk a'):NewSl M E' s' a' n' c' L' M2:=by
 have hb:∀ x,blk a x→M x=Option.none:=fun x ⟨q,hq,e⟩=>by subst e;exact(h.block hq).1
 refine newSl_iff.2 ⟨hk.le h.le hb,?_⟩;obtain⟨h1,h2,h3⟩:=hw;exact⟨h1,h2,h3.imp id fun ⟨b,cs,hab,hr⟩=>⟨b,cs,hab,hb b (by rw[ha];exact⟨_,hab,rfl⟩),hr⟩⟩
section
variable {κ α:Type} {kv:κ→Value} {vv:α→Value}
theorem MapAt.nb {M:Mem} {b:Nat} {m:List (κ×α)} (h:MapAt kv vv M b m) {x:Nat} {E:TypeId} {l:List Value} (hx:M.has x E l):x≠b:=by
 rintro rfl;obtain⟨l1,c,h1,_⟩:=h;unfold Mem.has at hx;rw[h1] at hx;simp[zcW] at hx
theorem Iter.nb {M:Mem} {b m:Nat} {cur todo:List (κ×α)} (h:Iter kv vv M b m cur todo) {x:Nat} {E:TypeId} {l:List Value} (hx:M.has x E l):x≠b∧x≠m:=by
 obtain⟨l1,c,seen,tb,h1,h2,h3,h4,hr⟩:=h;constructor
 ·rintro rfl;unfold Mem.has at hx;rw[h4] at hx;simp at hx
 ·rintro rfl;unfold Mem.has at hx;rw[h1] at hx;simp[zcW] at hx
theorem MapAt.src {M M':Mem} {x:Nat} {m:List (κ×α)} (h:MapAt kv vv M x m) {s:Nat} {a:Option Addr} {n:Nat} {l:List Value} (h':SrcOk M s a n l) (hk:Mem.keep (fun y=>y=x) M M'):SrcOk M' s a n l:=by
 unfold SrcOk at h' ⊢;obtain⟨h1,h2|⟨b,o,rfl,h3⟩⟩:=h'
 ·exact⟨h1,.inl h2⟩
 ·refine⟨h1,.inr ⟨b,o,rfl,?_⟩⟩
  have hne:b≠x:=by
   rintro rfl;obtain⟨l1,c,h4,_⟩:=h;unfold Mem.row at h3;rw[h4] at h3;simp[zcW] at h3
  unfold Mem.row at h3 ⊢;cases hb:M b with
  | none=>rw[hb] at h3;cases h3
  | some ob=>rw[hb] at h3;rw[hk b ob hne hb];exact h3
end
end Go.Vm
namespace Go.Vm
end Go.Vm
namespace Go.Vm
theorem CallsM.frame {P:Program} {f:Nat} {args:List Value} {A M:Mem} {R:Value→Mem→Prop} (h:CallsM P f args A R) (hA:A.le M) :
  CallsM P f args M fun v M'=>∃ A',R v A'∧A'.le M'∧∀ x o,A x=none→M x=some o→M' x=some o∧A' x=none:=by
 refine⟨h.1,fun F w hM hF hdj=>?_⟩;obtain⟨F',hF'⟩:∃ F':Mem,F'=fun x=>if A x=none then (if M x=none then F x else M x) else none:=⟨_,rfl⟩
 have hFF:F.le F':=fun x o hx=>by
  have hMx:M x=none:=(hdj x).resolve_right (by rw[hx];simp)
  have hAx:A x=none:=by
   cases e:A x with
   | none=>rfl
   | some y=>rw[hA x y e] at hMx;cases hMx
  rw[hF'];dsimp only;rw[if_pos hAx,if_pos hMx];exact hx
 have hF'w:F'.le (zj w):=fun x o hx=>by
  rw[hF'] at hx;dsimp only at hx;split at hx
  ·split at hx
   ·exact hF x o hx
   ·exact hM x o hx
  ·cases hx
 have hdj':A.disj F':=fun x=>by
  by_cases e:A x=none
  ·exact .inl e
  ·right;rw[hF'];dsimp only;rw[if_neg e]
 refine(h.2 F' w (fun x o hx=>hM x o (hA x o hx)) hF'w hdj').mono ?_;rintro e w' ⟨v,A',he,hR,hA',hFw',hdA,hrest⟩
 have hin:∀ x o,A x=none→M x=some o→F' x=some o:=fun x o h1 h2=>by
  rw[hF'];dsimp only;rw[if_pos h1,if_neg (by rw[h2];simp)];exact h2
 obtain⟨M',hM'⟩:∃ M':Mem,M'=fun x=>if A' x=none then (if A x=none then M x else none) else A' x:=⟨_,rfl⟩
 refine⟨v,M',he,⟨A',hR,fun x o hx=>by rw[hM'];dsimp only;rw[if_neg (by rw[hx];simp)];exact hx,fun x o h1 h2=>?_⟩,fun x o hx=>?_,fun x o hx=>hFw' x o (hFF x o hx),fun x=>?_,hrest⟩
 ·have:=hin x o h1 h2;have hn:A' x=none:=(hdA x).resolve_right (by rw[this];simp)
  exact⟨by rw[hM'];dsimp only;rw[if_pos hn,if_pos h1];exact h2,hn⟩
 ·rw[hM'] at hx;dsimp only at hx;split at hx
  ·split at hx
   ·exact hFw' x o (hin x o ‹_› hx)
   ·cases hx
  ·exact hA' x o hx
 ·cases e:F x with
  | none=>exact .inr rfl
  | some o=>
   left;have hFx:=hFF x o e
   have hn:A' x=none:=(hdA x).resolve_right (by rw[hFx];simp);have hMx:M x=none:=(hdj x).resolve_right (by rw[e];simp)
   rw[hM'];dsimp only;rw[if_pos hn];split
   ·exact hMx
   ·rfl
end Go.Vm
namespace Go.Vm
end Go.Vm
namespace Go.Vm
section
variable {α:Type} {enc:α→List Value} {s:Nat} (hk:∀ x,(enc x).length=s)
include hk
theorem zDS:∀ (l:List α) (i j:Nat) (x:α),l[i]? = some x→j<s→(l.flatMap enc)[i*s+j]? = (enc x)[j]?
 | [],i,j,x,h,_=>by simp at h
 | y::r,0,j,x,h,hj=>by
  simp at h;subst h;rw[List.flatMap_cons,Nat.zero_mul,Nat.zero_add,List.getElem?_append_left (by rw[hk];exact hj)]
 | y::r,i+1,j,x,h,hj=>by
  have:=zDS r i j x (by simpa using h) hj;rw[List.flatMap_cons,List.getElem?_append_right (by rw[hk,Nat.succ_mul];omega),hk,←this];congr 1;rw[Nat.succ_mul];omega
theorem zMA (l:List α):(l.flatMap enc).length=l.length*s:=by
 induction l with
 | nil=>simp
 | cons y r ih=>simp[hk,ih,Nat.succ_mul,Nat.add_comm]
theorem SrcOk.flen {M:Mem} {a:Option Addr} {n:Nat} {l:List α} (h:SrcOk M s a n (l.flatMap enc)) (hs:0<s):l.length=n:=by
 have:=h.len;rw[zMA hk] at this;exact Nat.eq_of_mul_eq_mul_right hs this
theorem SrcOk.fcell {M:Mem} {a:Option Addr} {n:Nat} {l:List α} (h:SrcOk M s a n (l.flatMap enc)) {j p:Nat} {x:α} {v:Value} (hx:l[j]? = some x) (hv:(enc x)[p]? = some v):∃ b o,a=some ⟨b,o,Option.none⟩∧M.row b (o+j*s+p) 1=some [v]:=by
 have hp:p<s:=by rw[←hk x];exact(List.getElem?_eq_some_iff.1 hv).1
 have hj:j<n:=by have:=h.flen hk (by omega);have:=(List.getElem?_eq_some_iff.1 hx).1;omega
 obtain⟨b,o,ha,hr⟩:=h.elem hj (by omega);refine⟨b,o,ha,?_⟩;rw[hr p 1 (by omega)];have hat:=zDS hk l j p x hx hp
 rw[hv] at hat;obtain⟨hlt,e⟩:=List.getElem?_eq_some_iff.1 hat;rw[List.drop_eq_getElem_cons hlt,e];simp
theorem SrcOk.fall {M:Mem} {a:Option Addr} {n:Nat} {l:List α} (h:SrcOk M s a n (l.flatMap enc)) (hs:0<s) {j:Nat} {x:α} (hx:l[j]? = some x):∃ b o,a=some ⟨b,o,Option.none⟩∧M.row b (o+j*s) s=some (enc x):=by
 have hj:j<n:=by have:=h.flen hk hs;have:=(List.getElem?_eq_some_iff.1 hx).1;omega
 obtain⟨b,o,ha,hr⟩:=h.elem hj hs;refine⟨b,o,ha,?_⟩;have:=hr 0 s (by omega)
 rw[Nat.add_zero] at this;rw[this];congr 1;apply List.ext_getElem?;intro t;by_cases ht:t<s
 ·rw[List.getElem?_take_of_lt ht,List.getElem?_drop,Nat.add_zero,zDS hk l j t x hx ht]
 ·rw[List.getElem?_eq_none (by simp;omega),List.getElem?_eq_none (by rw[hk];omega)]
theorem SrcOk.fcells {M:Mem} {a:Option Addr} {n:Nat} {l:List α} (h:SrcOk M s a n (l.flatMap enc)) (hs:0<s) {j:Nat} {x:α} (hx:l[j]? = some x):∃ b o,a=some ⟨b,o,Option.none⟩∧∀ p v,(enc x)[p]? = some v→M.row b (o+j*s+p) 1=some [v]:=by
 obtain⟨b,o,ha,_⟩:=h.fall hk hs hx;refine⟨b,o,ha,fun p v hv=>?_⟩;obtain⟨b',o',ha',hr⟩:=h.fcell hk hx hv;rw[ha] at ha';cases ha';exact hr
omit hk in
theorem zMB {E:TypeId} {bytes:Nat} {a:Option Addr} {n c:Nat} {news:List Value} {M:Mem} {k:Option Addr→Nat→Mem→Prop} {l:List α} (M0:Mem) (hown:NewSl M0 E s a n c (l.flatMap enc) M) (x:α) (hx:news=enc x)
  (h1:(n+1)*bytes≤140737488355328) (h2:n+1≤maxLen) (h3:∀ u∈news,u.oneCell'=true) (hkk:∀ a' c' M',NewSl M0 E s a' (n+1) c' ((l++[x]).flatMap enc) M'→Mem.keep (blk a) M M'→k a' c' M'):zaU E s bytes a n c 1 news M k:=by
 subst hx;refine appK M0 _ hown h1 h2 h3 fun a' c' M' hn hkp=>hkk a' c' M' ?_ hkp
 rw[List.flatMap_append];simpa using hn
end
end Go.Vm
namespace Go.Vm
open Go.RowKit
theorem WLe.refl (W:World):WLe W W:=⟨rfl,rfl,rfl,Nat.le_refl _,Nat.le_refl _,fun _ _ h=>h⟩
theorem CallsM.world {P:Program} {f:Nat} {args:List Value} {M:Mem} {R:Value→Mem→Prop} (h:CallsM P f args M R) {w:World} (hM:M.le (zj w)) (hR:∀ v M',R v M'→M.le M') :
  Calls P f args.toArray w fun e w'=>∃ v M',e = .returned v∧R v M'∧M'.le (zj w')∧WLe w w'∧∀ b,M b=none→M' b≠none→w.heap.size≤b:=by
 obtain⟨F,hF⟩:∃ F:Mem,F=fun b=>if M b=none then zj w b else none:=⟨_,rfl⟩
 refine(h.2 F w hM (fun b o hb=>?_) (fun b=>?_)).mono ?_
 ·rw[hF] at hb;dsimp only at hb;split at hb
  ·exact hb
  ·cases hb
 ·by_cases e:M b=none
  ·exact .inl e
  ·right;rw[hF];dsimp only;rw[if_neg e]
 ·rintro e w' ⟨v,M',he,hr,hM',hF',hdj,h1,h2,h3,h4,h5⟩;refine⟨v,M',he,hr,hM',⟨h1,h2,h3,h5,h4,fun k o hk=>?_⟩,fun b hb hb'=>?_⟩
  ·by_cases e:M k=none
   ·exact hF' k o (by rw[hF];dsimp only;rw[if_pos e];exact hk)
   ·obtain⟨z,hz⟩:=Option.ne_none_iff_exists'.1 e;have h6:=hM k z hz
    have:o=z:=Option.some.inj (hk.symm.trans h6);subst this;exact hM' k o (hR v M' hr k o hz)
  ·have h6:=(hdj b).resolve_left hb';rw[hF] at h6;dsimp only at h6;rw[if_pos hb] at h6;apply Classical.byContradiction;intro hlt;have:w.heap[b]? = none:=h6
   rw[Array.getElem?_eq_none_iff] at this;exact hlt this
theorem zGq {P:Program} {asg body:(Exit→St→Prop)→St→Prop} {ps:List Nat} {gf:Nat} {lb:List Value} {Q:Exit→St→Prop} {fr:List (Nat×SV)} {bx:List BE} {M:Mem} {α:Type} {encs:α→List Value} {A:Mem} {N:Nat} {PM:α→Mem→Prop} {D:List α→Prop}
  (hit:zDt P gf lb encs A N PM D) (hen:zfm P gf=true) (hbx:bx.all zJ2=true) (hA:A.le M) (hlen:∀ x,(encs x).length=ps.length) (I:List α→Mem→Prop) (M0:Mem) (hM0:M0.le M) (hAM:∀ b,A b≠none→M0 b=none) (hI:I [] M0)
  (hround:∀ pre x M Mx M1,I pre M→pre.length<N→PM x Mx→(∀ b,Mx b≠none→M b=none∧A b=none)→M.le M1→Mx.le M1 →
   asg (fun e t=>e = .normal∧body (fun e t'=>e = .normal∧∃ M2,I (pre++[x]) M2∧M2.le t'.M) t) ⟨zDu ps (encs x) fr,bx,M1⟩)
  (hdone:∀ xs M M1,D xs→I xs M→(∀ b,A b≠none→M b=none)→M.le M1→A.le M1→Q .normal ⟨fr,bx,M1⟩):zCQ P asg body ps gf lb Q ⟨fr,bx,M⟩:=
 ⟨hen,hbx,α,encs,A,N,PM,D,I,hit,hA,hlen,⟨M0,hM0,hAM,hI⟩,hround,hdone⟩
end Go.Vm
